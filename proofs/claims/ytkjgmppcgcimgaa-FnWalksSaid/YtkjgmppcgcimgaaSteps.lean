/- Steps between nodes, in plain Lean: rounds of neighbours, and the queue that finds the same numbers. -/
import Derived.Test.YtkjgmppcgcimgaaNetS
import Derived.Test.YtkjgmppcgcimgaaPut
namespace Go.Proofs.Ytkjgmppcgcimgaa
open Go.Am
set_option linter.unusedVariables false

/-- whether a node is reached within k steps -/
def rB (ps : List Pp) (src : Int) : Nat → Int → Bool
  | 0, v => decide (v = src)
  | k + 1, v => rB ps src k v || ps.any fun p => (decide (p.2.1 = v) && rB ps src k p.2.2.1) || (decide (p.2.2.1 = v) && rB ps src k p.2.1)
theorem any_getD {ps : List Pp} {f : Pp → Bool} : ps.any f = true ↔ ∃ i, i < ps.length ∧ f (ps.getD i pp0) = true := by
  rw [List.any_eq_true]
  constructor
  · rintro ⟨p, hp, hf⟩
    obtain ⟨i, hi, rfl⟩ := List.getElem_of_mem hp
    exact ⟨i, hi, by rw [List.getD_eq_getElem?_getD, List.getElem?_eq_getElem hi]; exact hf⟩
  · rintro ⟨i, hi, hf⟩
    rw [List.getD_eq_getElem?_getD, List.getElem?_eq_getElem hi] at hf
    exact ⟨_, List.getElem_mem hi, hf⟩
theorem rB_succ {ps : List Pp} {src v : Int} {k : Nat} : rB ps src (k + 1) v = true ↔ rB ps src k v = true ∨ ∃ i, i < ps.length ∧ ((ps.getD i pp0).2.1 = v ∧ rB ps src k (ps.getD i pp0).2.2.1 = true ∨ (ps.getD i pp0).2.2.1 = v ∧ rB ps src k (ps.getD i pp0).2.1 = true) := by
  rw [rB, Bool.or_eq_true, any_getD]
  simp only [Bool.or_eq_true, Bool.and_eq_true, decide_eq_true_eq]
theorem rB_mono {ps : List Pp} {src v : Int} {k : Nat} (h : rB ps src k v = true) : rB ps src (k + 1) v = true := rB_succ.2 (.inl h)
theorem rB_rng {n : Int} {ps : List Pp} {src : Int} (hN : NetAt n ps) (hs : 1 ≤ src ∧ src ≤ n) : ∀ k v, rB ps src k v = true → 1 ≤ v ∧ v ≤ n
  | 0, v, h => by have := of_decide_eq_true h; omega
  | k + 1, v, h => by
    rcases rB_succ.1 h with h | ⟨i, hi, h | h⟩
    · exact rB_rng hN hs k v h
    · have := hN.f_end i hi; omega
    · have := hN.f_end i hi; omega
/-- a neighbour is reached a step later -/
theorem rB_next {ps : List Pp} {src u v : Int} {k i : Nat} (h : rB ps src k u = true) (hi : i < ps.length) (ho : otherOf (ps.getD i pp0) u = v) (hv : 0 < v) : rB ps src (k + 1) v = true := by
  refine rB_succ.2 (.inr ⟨i, hi, ?_⟩)
  unfold otherOf at ho
  split at ho
  · rename_i e; exact .inr ⟨ho, by rw [← e]; exact h⟩
  · split at ho
    · rename_i e; exact .inl ⟨ho, by rw [← e]; exact h⟩
    · omega
/-- the first number at which f holds -/
def firstK (f : Nat → Bool) : Nat → Nat → Int
  | 0, _ => -1
  | m + 1, k => if f k = true then (k : Int) else firstK f m (k + 1)
theorem firstK_yes {f : Nat → Bool} {k0 : Nat} (h : f k0 = true) : ∀ m k, k ≤ k0 → k0 < k + m → (∀ j, k ≤ j → j < k0 → f j = false) → firstK f m k = k0
  | 0, k, h1, h2, _ => by omega
  | m + 1, k, h1, h2, h3 => by
    rw [firstK]
    by_cases e : k = k0
    · rw [e, if_pos h]
    · rw [if_neg (by rw [h3 k (Nat.le_refl _) (by omega)]; exact Bool.false_ne_true)]
      exact firstK_yes h m (k + 1) (by omega) (by omega) fun j hj => h3 j (by omega)
theorem firstK_no {f : Nat → Bool} : ∀ m k, (∀ j, k ≤ j → j < k + m → f j = false) → firstK f m k = -1
  | 0, k, _ => rfl
  | m + 1, k, h => by
    rw [firstK, if_neg (by rw [h k (Nat.le_refl _) (by omega)]; exact Bool.false_ne_true)]
    exact firstK_no m (k + 1) fun j hj hj2 => h j (by omega) (by omega)
theorem firstK_rng (f : Nat → Bool) : ∀ m k, -1 ≤ firstK f m k ∧ firstK f m k < (k : Int) + m
  | 0, k => by rw [firstK]; omega
  | m + 1, k => by
    have := firstK_rng f m (k + 1)
    rw [firstK]
    split <;> omega
/-- the steps from a node to another, or -1 -/
def distN (n : Nat) (ps : List Pp) (src v : Int) : Int := firstK (fun k => rB ps src k v) (n + 1) 0
theorem distN_rng (n : Nat) (ps : List Pp) (src v : Int) : -1 ≤ distN n ps src v ∧ distN n ps src v ≤ n := by
  have := firstK_rng (fun k => rB ps src k v) (n + 1) 0
  unfold distN
  omega
/-! ### The queue -/
def known (d : List Int) : Nat := d.countP fun x => decide (0 ≤ x)
theorem known_set {d : List Int} {v : Nat} {x : Int} (hv : v < d.length) (h : d.getD v 0 < 0) (hx : 0 ≤ x) : known (d.set v x) = known d + 1 := by
  unfold known
  rw [List.countP_set hv]
  rw [List.getD_eq_getElem?_getD, List.getElem?_eq_getElem hv] at h
  simp only [Option.getD_some] at h
  have h1 : decide (0 ≤ d[v]) = false := decide_eq_false (by omega)
  rw [h1, decide_eq_true hx]
  simp
theorem known_le (d : List Int) : known d ≤ d.length := List.countP_le_length
theorem getD_setI {d : List Int} {i j : Nat} {x : Int} (hi : i < d.length) : (d.set i x).getD j 0 = if i = j then x else d.getD j 0 := by
  simp only [List.getD_eq_getElem?_getD, List.getElem?_set]
  by_cases h : i = j
  · subst h; simp [hi]
  · simp [h]
/-- the queue q, and the steps d that are known -/
structure Bfs (n : Nat) (ps : List Pp) (src : Int) (d q : List Int) : Prop where
  len : d.length = n + 1
  src0 : d.getD src.toNat 0 = 0
  ex : ∀ v : Nat, v ≤ n → d.getD v 0 = -1 ∨ ∃ k : Nat, d.getD v 0 = k ∧ rB ps src k v = true ∧ ∀ j, j < k → rB ps src j v = false
  inq : ∀ y ∈ q, 1 ≤ y ∧ y ≤ n ∧ 0 ≤ d.getD y.toNat 0
  srt : q.Pairwise fun a b => d.getD a.toNat 0 ≤ d.getD b.toNat 0
  top : ∀ x r, q = x :: r → ∀ y ∈ q, d.getD y.toNat 0 ≤ d.getD x.toNat 0 + 1
  done : ∀ u : Int, 1 ≤ u → u ≤ n → 0 ≤ d.getD u.toNat 0 → u ∈ q ∨ ∀ i, i < ps.length → ∀ v, otherOf (ps.getD i pp0) u = v → 0 < v → 0 ≤ d.getD v.toNat 0
  cnt : ∀ v : Nat, v ≤ n → d.getD v 0 + 1 ≤ known d
theorem other_rng {n : Int} {ps : List Pp} (hN : NetAt n ps) {i : Nat} (hi : i < ps.length) (u : Int) : otherOf (ps.getD i pp0) u = 0 ∨ 1 ≤ otherOf (ps.getD i pp0) u ∧ otherOf (ps.getD i pp0) u ≤ n := by
  have := hN.f_end i hi
  unfold otherOf
  split
  · right; omega
  · split
    · right; omega
    · left; rfl
section
variable {n : Nat} {ps : List Pp} {src : Int} {d q r : List Int} {x : Int}
/-- all that is reached before the head's number is known -/
theorem Bfs.before (h : Bfs n ps src d (x :: r)) (hN : NetAt n ps) (hs : 1 ≤ src ∧ src ≤ n) : ∀ j : Nat, (j : Int) ≤ d.getD x.toNat 0 → ∀ v, rB ps src j v = true → 0 ≤ d.getD v.toNat 0
  | 0, _, v, hv => by
    have : v = src := of_decide_eq_true hv
    rw [this, h.src0]; exact Int.le_refl _
  | j + 1, hj, v, hv => by
    rcases rB_succ.1 hv with hv | ⟨i, hi, hv⟩
    · exact Bfs.before h hN hs j (by omega) v hv
    · obtain ⟨u, hu, ho⟩ : ∃ u, rB ps src j u = true ∧ otherOf (ps.getD i pp0) u = v := by
        have hne := hN.f_ne i hi
        rcases hv with ⟨e, hv⟩ | ⟨e, hv⟩
        · exact ⟨_, hv, by unfold otherOf; rw [if_neg (fun e2 => hne e2.symm), if_pos rfl]; exact e⟩
        · exact ⟨_, hv, by unfold otherOf; rw [if_pos rfl]; exact e⟩
      have hur := rB_rng hN hs j u hu
      have hvr := rB_rng hN hs _ v (rB_succ.2 (.inr ⟨i, hi, hv⟩))
      have hud := Bfs.before h hN hs j (by omega) u hu
      rcases h.done u hur.1 hur.2 hud with hq | hd
      · exfalso
        have e := h.ex u.toNat (by omega)
        rw [Int.toNat_of_nonneg (by omega)] at e
        rcases e with e | ⟨k, e1, e2, e3⟩
        · omega
        · have hk : k ≤ j := by
            rcases Nat.lt_or_ge j k with h' | h'
            · rw [e3 j h'] at hu; cases hu
            · exact h'
          have : d.getD x.toNat 0 ≤ d.getD u.toNat 0 := by
            rcases List.mem_cons.1 hq with e | e
            · rw [e]; exact Int.le_refl _
            · exact List.rel_of_pairwise_cons h.srt e
          omega
      · exact hd i hi v ho (by omega)
/-- a neighbour of the head is found -/
theorem Bfs.found (h : Bfs n ps src d (x :: r)) (hN : NetAt n ps) (hs : 1 ≤ src ∧ src ≤ n) {i : Nat} (hi : i < ps.length) {v : Int} (ho : otherOf (ps.getD i pp0) x = v) (hv : 0 < v) (hd : d.getD v.toNat 0 < 0) :
    Bfs n ps src (d.set v.toNat (d.getD x.toNat 0 + 1)) (x :: r ++ [v]) ∧ known (d.set v.toNat (d.getD x.toNat 0 + 1)) = known d + 1 := by
  have hvn : v ≤ n := by rcases other_rng hN hi x with e | e <;> omega
  obtain ⟨hx1, hx2, hx3⟩ := h.inq x (List.mem_cons_self ..)
  have hvl : v.toNat < d.length := by rw [h.len]; omega
  have hk := known_set (x := d.getD x.toNat 0 + 1) hvl hd (by omega)
  have g : ∀ j, (d.set v.toNat (d.getD x.toNat 0 + 1)).getD j 0 = if v.toNat = j then d.getD x.toNat 0 + 1 else d.getD j 0 := fun j => getD_setI hvl
  have hnq : ∀ y ∈ x :: r, v.toNat ≠ y.toNat := fun y hy e => by have := (h.inq y hy).2.2; rw [← e] at this; omega
  have gq : ∀ y ∈ x :: r, (d.set v.toNat (d.getD x.toNat 0 + 1)).getD y.toNat 0 = d.getD y.toNat 0 := fun y hy => by rw [g, if_neg (hnq y hy)]
  have gm : ∀ u : Nat, 0 ≤ d.getD u 0 → 0 ≤ (d.set v.toNat (d.getD x.toNat 0 + 1)).getD u 0 := fun u hu => by rw [g]; split <;> omega
  refine ⟨⟨by rw [List.length_set]; exact h.len, ?_, fun w hw => ?_, fun y hy => ?_, ?_, fun x' r' e y hy => ?_, fun u hu1 hu2 hu3 => ?_, fun w hw => ?_⟩, hk⟩
  · rw [g, if_neg]
    · exact h.src0
    · intro e
      rw [e, h.src0] at hd; omega
  · rw [g]
    by_cases e : v.toNat = w
    · rw [if_pos e]
      right
      have ex := h.ex x.toNat (by omega)
      rw [Int.toNat_of_nonneg (by omega)] at ex
      rcases ex with e1 | ⟨k, e1, e2, e3⟩
      · omega
      · refine ⟨k + 1, by rw [e1]; simp, ?_, fun j hj => ?_⟩
        · rw [← e, Int.toNat_of_nonneg (by omega)]
          exact rB_next e2 hi ho hv
        · rw [← e, Int.toNat_of_nonneg (by omega)]
          cases hb : rB ps src j v with
          | false => rfl
          | true =>
            have := h.before hN hs j (by omega) v hb
            omega
    · rw [if_neg e]; exact h.ex w hw
  · rcases List.mem_append.1 hy with hy | hy
    · obtain ⟨a, b, c⟩ := h.inq y hy
      exact ⟨a, b, by rw [gq y hy]; exact c⟩
    · rw [List.mem_singleton] at hy
      subst hy
      exact ⟨by omega, hvn, by rw [g, if_pos rfl]; omega⟩
  · rw [List.pairwise_append]
    refine ⟨h.srt.imp_of_mem fun {a b} ha hb hab => by rw [gq a ha, gq b hb]; exact hab, List.pairwise_singleton _ _, fun a ha b hb => ?_⟩
    rw [List.mem_singleton] at hb
    subst hb
    rw [gq a ha, g, if_pos rfl]
    exact h.top x r rfl a ha
  · obtain ⟨rfl, _⟩ : x = x' ∧ r ++ [v] = r' := by simpa using e
    rw [gq x (List.mem_cons_self ..)]
    rcases List.mem_append.1 hy with hy | hy
    · rw [gq y hy]; exact h.top x r rfl y hy
    · rw [List.mem_singleton] at hy
      subst hy
      rw [g, if_pos rfl]; exact Int.le_refl _
  · by_cases e : u = v
    · left; rw [e]; simp
    · have hne : v.toNat ≠ u.toNat := by omega
      rw [g, if_neg hne] at hu3
      rcases h.done u hu1 hu2 hu3 with hq | hd'
      · left; exact List.mem_append.2 (.inl hq)
      · right; exact fun i hi w ho hw => gm _ (hd' i hi w ho hw)
  · rw [g, hk]
    have h1 := h.cnt w hw
    have h2 := h.cnt x.toNat (by omega)
    split <;> omega
/-- the head is done with -/
theorem Bfs.pop (h : Bfs n ps src d (x :: r)) (hd : ∀ i, i < ps.length → ∀ v, otherOf (ps.getD i pp0) x = v → 0 < v → 0 ≤ d.getD v.toNat 0) : Bfs n ps src d r := by
  refine ⟨h.len, h.src0, h.ex, fun y hy => h.inq y (List.mem_cons_of_mem _ hy), (List.pairwise_cons.1 h.srt).2, fun y r' e z hz => ?_, fun u hu1 hu2 hu3 => ?_, h.cnt⟩
  · have h1 := h.top x r rfl z (List.mem_cons_of_mem _ hz)
    have h2 := (List.pairwise_cons.1 h.srt).1 y (by rw [e]; exact List.mem_cons_self ..)
    omega
  · rcases h.done u hu1 hu2 hu3 with hq | hd'
    · rcases List.mem_cons.1 hq with e | e
      · right; rw [e]; exact hd
      · exact .inl e
    · exact .inr hd'
/-- nothing is left: all numbers are known -/
theorem Bfs.end_ (h : Bfs n ps src d []) (hN : NetAt n ps) (hs : 1 ≤ src ∧ src ≤ n) : d = (List.range (n + 1)).map fun v : Nat => distN n ps src v := by
  have all : ∀ j : Nat, ∀ v, rB ps src j v = true → 0 ≤ d.getD v.toNat 0 := by
    intro j
    induction j with
    | zero =>
      intro v hv
      have : v = src := of_decide_eq_true hv
      rw [this, h.src0]; exact Int.le_refl _
    | succ j ih =>
      intro v hv
      rcases rB_succ.1 hv with hv' | ⟨i, hi, hv'⟩
      · exact ih v hv'
      · have hvr := rB_rng hN hs _ v hv
        have hne := hN.f_ne i hi
        obtain ⟨u, hu, ho⟩ : ∃ u, rB ps src j u = true ∧ otherOf (ps.getD i pp0) u = v := by
          rcases hv' with ⟨e, hv'⟩ | ⟨e, hv'⟩
          · exact ⟨_, hv', by unfold otherOf; rw [if_neg (fun e2 => hne e2.symm), if_pos rfl]; exact e⟩
          · exact ⟨_, hv', by unfold otherOf; rw [if_pos rfl]; exact e⟩
        have hur := rB_rng hN hs j u hu
        rcases h.done u hur.1 hur.2 (ih u hu) with hq | hd
        · cases hq
        · exact hd i hi v ho (by omega)
  apply List.ext_getElem (by simp [h.len])
  intro v h1 h2
  have hv : v ≤ n := by rw [h.len] at h1; omega
  have e := h.ex v hv
  have e0 : d.getD v 0 = d[v] := by rw [List.getD_eq_getElem?_getD, List.getElem?_eq_getElem h1]; rfl
  rw [e0] at e
  simp only [List.getElem_map, List.getElem_range]
  unfold distN
  rcases e with e | ⟨k, e1, e2, e3⟩
  · rw [e, firstK_no]
    intro j _ _
    cases hb : rB ps src j v with
    | false => rfl
    | true =>
      have := all j v hb
      rw [Int.toNat_natCast, e0] at this
      omega
  · have c := h.cnt v hv
    have kl := known_le d
    rw [e0, e1] at c
    rw [h.len] at kl
    rw [e1, firstK_yes (f := fun k => rB ps src k v) e2 (n + 1) 0 (Nat.zero_le _) (by omega) fun j _ hj => e3 j hj]
end
end Go.Proofs.Ytkjgmppcgcimgaa
