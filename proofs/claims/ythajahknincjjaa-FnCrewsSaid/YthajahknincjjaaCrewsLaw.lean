/- FnCrews: plain facts. -/
import Derived.Test.YthajahknincjjaaBestEnd
import Derived.Test.YthajahknincjjaaMoveTask2
import Derived.Test.YthajahknincjjaaGreedy2
import Derived.Test.YthajahknincjjaaFinishTimes
namespace Go.Proofs.Ythajahknincjjaa
open Go.Am
set_option linter.unusedVariables false

/-! ### The greatest of a list -/
theorem mxTo_le {s : List Int} {B : Int} : ∀ n, mxTo s n ≤ B ↔ 0 ≤ B ∧ ∀ i, i < n → s.getD i 0 ≤ B
  | 0 => by simp [mxTo]
  | n + 1 => by
    rw [mxTo]
    have ih := mxTo_le (s := s) (B := B) n
    constructor
    · intro h
      have h1 := ih.1 (by omega)
      refine ⟨h1.1, fun i hi => ?_⟩
      rcases Nat.lt_or_ge i n with h' | h'
      · exact h1.2 i h'
      · obtain rfl : i = n := by omega
        omega
    · intro h
      have h1 := ih.2 ⟨h.1, fun i hi => h.2 i (by omega)⟩
      have h2 := h.2 n (by omega)
      omega
theorem mxTo_ext {s r : List Int} {n m : Nat} (h : ∀ B : Int, (0 ≤ B ∧ ∀ i, i < n → s.getD i 0 ≤ B) ↔ (0 ≤ B ∧ ∀ i, i < m → r.getD i 0 ≤ B)) : mxTo s n = mxTo r m := by
  have h1 := (mxTo_le (s := s) (B := mxTo r m) n).2 ((h _).2 ((mxTo_le m).1 (Int.le_refl _)))
  have h2 := (mxTo_le (s := r) (B := mxTo s n) m).2 ((h _).1 ((mxTo_le n).1 (Int.le_refl _)))
  omega
theorem finTo_getD (l : List Tk) (crews : Int) (a : List Int) {k i : Nat} (hi : i < k) : (finTo l crews a k).getD i 0 = (loadTo l crews a (i + 1)).getD (a.getD i 0).toNat 0 := by
  unfold finTo
  rw [List.getD_eq_getElem?_getD, List.getElem?_map, List.getElem?_range hi]
  rfl
theorem fin_max {l : List Tk} {crews : Int} {a : List Int} (h : AsgAt l crews a) : ∀ k, k ≤ l.length → mxTo (finTo l crews a k) k = mxTo (loadTo l crews a k) crews.toNat
  | 0, _ => by
    rw [mxTo]
    have := (mxTo_le (s := loadTo l crews a 0) (B := 0) crews.toNat).2 ⟨Int.le_refl _, fun i hi => by have := (loadTo_bound h 0 (by omega) i).2; simpa using this⟩
    have := ((mxTo_le (s := loadTo l crews a 0) (B := mxTo (loadTo l crews a 0) crews.toNat) crews.toNat).1 (Int.le_refl _)).1
    omega
  | k + 1, hk => by
    have ih := fin_max h k (by omega)
    have g := (goodT_at h.f_good).2 k (by omega)
    have c := h.f_in k (by have := h.f_len; omega)
    have cr := h.f_crews
    have ln := loadTo_length l crews a k
    refine mxTo_ext fun B => ?_
    have e := (mxTo_le (s := finTo l crews a k) (B := B) k).symm.trans ((by rw [ih] : mxTo (finTo l crews a k) k ≤ B ↔ mxTo (loadTo l crews a k) crews.toNat ≤ B).trans (mxTo_le crews.toNat))
    have fk : (finTo l crews a (k + 1)).getD k 0 = (loadTo l crews a k).getD (a.getD k 0).toNat 0 + (l.getD k (0, 0, 0)).2.2 := by
      rw [finTo_getD l crews a (Nat.lt_succ_self k), loadTo, getD_set_of, if_pos ⟨rfl, by omega⟩]
    have lk : ∀ q, (loadTo l crews a (k + 1)).getD q 0 = if (a.getD k 0).toNat = q ∧ q < (loadTo l crews a k).length then (loadTo l crews a k).getD (a.getD k 0).toNat 0 + (l.getD k (0, 0, 0)).2.2 else (loadTo l crews a k).getD q 0 := fun q => by
      rw [loadTo, getD_set_of]
    constructor
    · rintro ⟨h0, h1⟩
      have h2 := e.1 ⟨h0, fun i hi => by have := h1 i (by omega); rwa [finTo_getD l crews a (by omega)] at this ⊢⟩
      refine ⟨h0, fun q hq => ?_⟩
      rw [lk]
      split
      · have := h1 k (by omega)
        rwa [fk] at this
      · exact h2.2 q hq
    · rintro ⟨h0, h1⟩
      have hq := h1 (a.getD k 0).toNat (by omega)
      rw [lk, if_pos ⟨rfl, by omega⟩] at hq
      have h2 := e.2 ⟨h0, fun q hq' => by
        have := h1 q hq'
        rw [lk] at this
        split at this
        · rename_i hc
          rw [← hc.1]
          omega
        · exact this⟩
      refine ⟨h0, fun i hi => ?_⟩
      rcases Nat.lt_or_ge i k with h' | h'
      · have := h2.2 i h'
        rwa [finTo_getD l crews a (by omega)] at this ⊢
      · obtain rfl : i = k := by omega
        rw [fk]
        exact hq
/-! ### The sum of the loads -/
theorem sum_set {x : Int} : ∀ (s : List Int) (i : Nat), i < s.length → (s.set i x).sum = s.sum - s.getD i 0 + x
  | [], i, h => absurd h (by simp)
  | y :: s, 0, _ => by simp; omega
  | y :: s, i + 1, h => by
    have ih := sum_set (x := x) s i (by simpa using h)
    simp only [List.set_cons_succ, List.sum_cons, List.getD_cons_succ]
    omega
def minTo (l : List Tk) : Nat → Int
  | 0 => 0
  | k + 1 => minTo l k + (l.getD k (0, 0, 0)).2.2
theorem load_sum {l : List Tk} {crews : Int} {a : List Int} (h : AsgAt l crews a) : ∀ k, k ≤ l.length → (loadTo l crews a k).sum = minTo l k
  | 0, _ => by
    rw [loadTo, minTo]
    generalize crews.toNat = n
    induction n with
    | zero => rfl
    | succ n ih => rw [List.replicate_succ, List.sum_cons, ih]; rfl
  | k + 1, hk => by
    have ih := load_sum h k (by omega)
    have c := h.f_in k (by have := h.f_len; omega)
    have cr := h.f_crews
    have ln := loadTo_length l crews a k
    rw [loadTo, sum_set _ _ (by omega), minTo, ih]
    omega
theorem load_small {l : List Tk} {crews : Int} {a : List Int} (h : AsgAt l crews a) : ∀ u ∈ loadTo l crews a a.length, 0 ≤ u ∧ u ≤ 99999 := by
  intro u hu
  obtain ⟨q, hq, rfl⟩ := List.getElem_of_mem hu
  have := loadTo_bound h a.length (by rw [h.f_len]; omega) q
  have l7 := (goodT_at h.f_good).1
  have := h.f_len
  rw [List.getD_eq_getElem?_getD, List.getElem?_eq_getElem hq] at *
  simp only [Option.getD_some] at *
  omega
/-! ### The best assignment -/
structure BestAt (l : List Tk) (crews : Int) (p : List Int → Prop) (q : Bst) : Prop where
  f_asg : AsgAt l crews q.1
  f_end : q.2 = endN l crews q.1
  f_least : ∀ b, AsgAt l crews b → p b → q.2 ≤ endN l crews b
theorem bst_at {l : List Tk} {crews : Int} : ∀ (f : Nat) (a : List Int), GoodB l crews a → l.length - a.length < f → BestAt l crews (fun b => b.take a.length = a) (bstB l crews f a)
  | 0, a, hg, h => absurd h (Nat.not_lt_zero _)
  | f + 1, a, hg, hf => by
    have hc := hg.crews
    have hle := hg.g_len
    rw [bstB]
    by_cases hl : a.length = l.length
    · rw [if_pos hl]
      refine ⟨hg.at hl, rfl, fun b hb hp => ?_⟩
      have : b = a := by rw [← hp, List.take_of_length_le (by have := hb.f_len; omega)]
      rw [this]
      exact Int.le_refl _
    · rw [if_neg hl]
      have ih : ∀ k, k < crews.toNat → BestAt l crews (fun b => b.take (a ++ [(k : Int)]).length = a ++ [(k : Int)]) (bstB l crews f (a ++ [(k : Int)])) := fun k hk =>
        bst_at f _ (hg.snoc (by omega) hk) (by simp; omega)
      have key : ∀ k, k ≤ crews.toNat → 0 < k → BestAt l crews (fun b => b.take a.length = a ∧ b.getD a.length 0 < k) (bTo (bstB l crews f) a k) := by
        intro k
        induction k with
        | zero => intro _ h; omega
        | succ k ihk =>
          intro hk _
          have hr := ih k (by omega)
          have r0 := (endN_bound hr.f_asg).1
          have last : ∀ b, AsgAt l crews b → b.take a.length = a → b.getD a.length 0 = k → (bstB l crews f (a ++ [(k : Int)])).2 ≤ endN l crews b := fun b hb h1 h2 => by
            refine hr.f_least b hb ?_
            have hbl : a.length < b.length := by have := hb.f_len; omega
            rw [List.length_append, List.length_singleton, List.take_succ_eq_append_getElem hbl, h1]
            rw [List.getD_eq_getElem?_getD, List.getElem?_eq_getElem hbl] at h2
            simp only [Option.getD_some] at h2
            rw [h2]
          rcases Nat.eq_zero_or_pos k with h0 | h0
          · subst h0
            rw [bTo, if_pos (.inl (by simp [bTo]))]
            refine ⟨hr.f_asg, hr.f_end, fun b hb hp => last b hb hp.1 ?_⟩
            have := (hb.f_in a.length (by have := hb.f_len; omega)).1
            omega
          · have hk' := ihk (by omega) h0
            rw [bTo]
            split
            · rename_i hlt
              have p0 := (endN_bound hk'.f_asg).1
              rw [← hk'.f_end] at p0
              refine ⟨hr.f_asg, hr.f_end, fun b hb hp => ?_⟩
              by_cases hbk : b.getD a.length 0 = k
              · exact last b hb hp.1 hbk
              · have := hk'.f_least b hb ⟨hp.1, by omega⟩
                omega
            · rename_i hlt
              refine ⟨hk'.f_asg, hk'.f_end, fun b hb hp => ?_⟩
              by_cases hbk : b.getD a.length 0 = k
              · have := last b hb hp.1 hbk
                omega
              · exact hk'.f_least b hb ⟨hp.1, by omega⟩
      have h1 := key crews.toNat (Nat.le_refl _) (by omega)
      refine ⟨h1.f_asg, h1.f_end, fun b hb hp => h1.f_least b hb ⟨hp, ?_⟩⟩
      have := (hb.f_in a.length (by have := hb.f_len; omega)).2
      omega
theorem best_at {l : List Tk} {crews : Int} (h : askOk l crews = true) : AsgAt l crews (bestB l crews).1 ∧ (bestB l crews).2 = endN l crews (bestB l crews).1 ∧ ∀ b, AsgAt l crews b → (bestB l crews).2 ≤ endN l crews b := by
  have := bst_at (l := l) (crews := crews) (l.length + 1) [] ⟨h, by simp, fun i hi => absurd hi (by simp)⟩ (by simp)
  exact ⟨this.f_asg, this.f_end, fun b hb => this.f_least b hb rfl⟩
/-! ### The greedy one -/
theorem gr_at {l : List Tk} {crews : Int} (h : askOk l crews = true) : AsgAt l crews (grTo l crews l.length).1 := by
  have h' := h
  simp only [askOk, inB, Bool.and_eq_true, decide_eq_true_eq] at h'
  refine ⟨h'.1, h'.2, (grTo_length l crews _).1, ?_⟩
  have key : ∀ j i, 0 ≤ (grTo l crews j).1.getD i 0 ∧ (grTo l crews j).1.getD i 0 ≤ crews - 1 := by
    intro j
    induction j with
    | zero =>
      intro i
      simp only [grTo, List.getD_eq_getElem?_getD, List.getElem?_replicate]
      split <;> simp <;> omega
    | succ j ih =>
      intro i
      simp only [grTo]
      rw [getD_set_int]
      split
      · have hl := (grTo_length l crews j).2
        have := am_lt (s := (grTo l crews j).2) (by omega)
        omega
      · exact ih i
  exact fun i _ => key _ i
/-! ### A move -/
structure MvAt (l : List Tk) (crews : Int) (a : List Int) (m : Mv) : Prop where
  f_mv : (m.1 < 0 ∧ m.2.2 = endN l crews a) ∨ ∃ i k : Nat, m.1 = i ∧ m.2.1 = k ∧ i < l.length ∧ (k : Int) < crews ∧ m.2.2 = endN l crews (a.set i k) ∧ endN l crews (a.set i k) < endN l crews a
theorem mv_at {l : List Tk} {crews : Int} {a : List Int} (hc : 1 ≤ crews) : ∀ i, i ≤ l.length → MvAt l crews a (mvTo l crews a i)
  | 0, _ => ⟨.inl ⟨by simp [mvTo], rfl⟩⟩
  | i + 1, hi => by
    have ih := mv_at (l := l) (a := a) hc i (by omega)
    have key : ∀ k, k ≤ crews.toNat → MvAt l crews a (mvIn l crews a i (mvTo l crews a i) k) := by
      intro k
      induction k with
      | zero => intro _; exact ih
      | succ k ihk =>
        intro hk
        have h1 := ihk (by omega)
        rw [mvIn]
        split
        · rename_i hlt
          refine ⟨.inr ⟨i, k, rfl, rfl, by omega, by omega, rfl, ?_⟩⟩
          rcases h1.f_mv with h2 | ⟨i', k', _, _, _, _, h2, h3⟩ <;> omega
        · exact h1
    exact key _ (Nat.le_refl _)
end Go.Proofs.Ythajahknincjjaa
