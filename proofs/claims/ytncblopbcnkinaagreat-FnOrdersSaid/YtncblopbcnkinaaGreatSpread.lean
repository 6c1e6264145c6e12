/- Spreading over pipes, in plain Lean: one round after the other until nothing is reached any more. -/
import Derived.Test.YtncblopbcnkinaaGreatRecPp
import Derived.Test.YtncblopbcnkinaaGreatRecVl
namespace Go.Proofs.YtncblopbcnkinaaGreat
open Go.Am
set_option linter.unusedVariables false
set_option linter.unusedSimpArgs false

abbrev pp0 : Pp := (0, 0, 0, 0)
abbrev vl0 : Vl := (0, 0, 0, false)
def cnt : List Bool → Nat
  | [] => 0
  | b :: l => (if b then 1 else 0) + cnt l
theorem cnt_le : ∀ l : List Bool, cnt l ≤ l.length
  | [] => Nat.le_refl _
  | b :: l => by have := cnt_le l; cases b <;> simp [cnt] <;> omega
theorem cnt_set : ∀ (l : List Bool) (i : Nat), i < l.length → cnt (l.set i true) + (if l.getD i false then 1 else 0) = cnt l + 1
  | [], i, h => absurd h (by simp)
  | b :: l, 0, h => by cases b <;> simp [cnt] <;> omega
  | b :: l, i + 1, h => by
    have := cnt_set l i (by simpa using h)
    simp only [List.set_cons_succ, cnt, List.getD_cons_succ]
    omega
theorem getD_set_ne {l : List Bool} {i j : Nat} (h : i ≠ j) (b : Bool) : (l.set i b).getD j false = l.getD j false := by
  simp [List.getD_eq_getElem?_getD, List.getElem?_set_ne h]
theorem getD_set_eq {l : List Bool} {i : Nat} (h : i < l.length) (b : Bool) : (l.set i b).getD i false = b := by
  simp [List.getD_eq_getElem?_getD, List.getElem?_set_self h]

abbrev St := List Bool × Bool
/-- one end of a pipe: a is the node's place, b the pipe's -/
def stepAt (o : Bool) (s : St) (a b : Nat) : St := if s.1.getD a false != s.1.getD b false && o then ((s.1.set a true).set b true, true) else s
def endOfP (p : Pp) (k : Nat) : Int := if k = 0 then p.2.1 else p.2.2.1
def inP (op : Pp → Int → Bool) (s : St) (i : Nat) (p : Pp) : Nat → St
  | 0 => s
  | k + 1 => stepAt (op p (endOfP p k)) (inP op s i p k) (endOfP p k).toNat (9 + i)
def psTo (op : Pp → Int → Bool) (ps : List Pp) (W : List Bool) : Nat → St
  | 0 => (W, false)
  | i + 1 => inP op (psTo op ps W i) i (ps.getD i pp0) 2
def pass (op : Pp → Int → Bool) (ps : List Pp) (W : List Bool) : St := psTo op ps W ps.length
def run (op : Pp → Int → Bool) (ps : List Pp) : Nat → List Bool → List Bool
  | 0, W => W
  | f + 1, W => if (pass op ps W).2 then run op ps f (pass op ps W).1 else (pass op ps W).1
inductive Spr (op : Pp → Int → Bool) (ps : List Pp) : List Bool → List Bool → Prop
  | done {W} (h : (pass op ps W).2 = false) : Spr op ps W (pass op ps W).1
  | more {W R} (h : (pass op ps W).2 = true) (k : Spr op ps (pass op ps W).1 R) : Spr op ps W R
theorem Spr.get_done {op : Pp → Int → Bool} {ps : List Pp} {W R : List Bool} (h : Spr op ps W R) (hp : (pass op ps W).2 = false) : R = (pass op ps W).1 := by
  cases h with
  | done _ => rfl
  | more h _ => rw [hp] at h; cases h
theorem Spr.get_more {op : Pp → Int → Bool} {ps : List Pp} {W R : List Bool} (h : Spr op ps W R) (hp : (pass op ps W).2 = true) : Spr op ps (pass op ps W).1 R := by
  cases h with
  | done h => rw [hp] at h; cases h
  | more _ h => exact h
/-- what holds of the state of a round that began with W -/
def SInv (W : List Bool) (s : St) : Prop := s.1.length = W.length ∧ (s = (W, false) ∨ (s.2 = true ∧ cnt W < cnt s.1))
theorem stepAt_inv {W : List Bool} {s : St} (h : SInv W s) (o : Bool) {a b : Nat} (ha : a < W.length) (hb : b < W.length) (hab : a ≠ b) : SInv W (stepAt o s a b) := by
  unfold stepAt
  split
  · rename_i hc
    have hne : s.1.getD a false ≠ s.1.getD b false := by
      simp only [Bool.and_eq_true, bne_iff_ne] at hc; exact hc.1
    obtain ⟨h1, h2⟩ := h
    refine ⟨by simp [h1], .inr ⟨rfl, ?_⟩⟩
    have c1 := cnt_set s.1 a (by omega)
    have c2 := cnt_set (s.1.set a true) b (by simp; omega)
    rw [getD_set_ne hab] at c2
    show cnt W < cnt ((s.1.set a true).set b true)
    have h3 : cnt W ≤ cnt s.1 := by
      rcases h2 with h2 | h2
      · rw [h2]; exact Nat.le_refl _
      · omega
    cases h4 : s.1.getD a false <;> cases h5 : s.1.getD b false <;> rw [h4] at c1 hne <;> rw [h5] at c2 hne <;> simp at c1 c2 hne <;> omega
  · exact h
/-- the pipes of a network: their ends are nodes -/
structure NetAt (n : Int) (ps : List Pp) : Prop where
  f_n : 1 ≤ n ∧ n ≤ 8
  f_len : ps.length ≤ 10
  f_end : ∀ i, i < ps.length → 1 ≤ (ps.getD i pp0).2.1 ∧ (ps.getD i pp0).2.1 ≤ n ∧ 1 ≤ (ps.getD i pp0).2.2.1 ∧ (ps.getD i pp0).2.2.1 ≤ n
  f_ne : ∀ i, i < ps.length → (ps.getD i pp0).2.1 ≠ (ps.getD i pp0).2.2.1
  f_id : ∀ i, i < ps.length → 1 ≤ (ps.getD i pp0).1 ∧ (ps.getD i pp0).1 ≤ 99
  f_asc : ∀ i, i < ps.length → 0 < i → (ps.getD (i - 1) pp0).1 < (ps.getD i pp0).1
theorem NetAt.end_ {n : Int} {ps : List Pp} (h : NetAt n ps) {i : Nat} (hi : i < ps.length) (k : Nat) : 1 ≤ endOfP (ps.getD i pp0) k ∧ endOfP (ps.getD i pp0) k ≤ 8 := by
  have := h.f_end i hi
  have := h.f_n
  unfold endOfP
  split <;> omega
theorem inP_inv {n : Int} {ps : List Pp} (h : NetAt n ps) (op : Pp → Int → Bool) {W : List Bool} (hW : W.length = 19) {s : St} (hs : SInv W s) {i : Nat} (hi : i < ps.length) : ∀ k, SInv W (inP op s i (ps.getD i pp0) k)
  | 0 => hs
  | k + 1 => by
    have := h.end_ hi k
    have := h.f_len
    exact stepAt_inv (inP_inv h op hW hs hi k) _ (by omega) (by omega) (by omega)
theorem psTo_inv {n : Int} {ps : List Pp} (h : NetAt n ps) (op : Pp → Int → Bool) {W : List Bool} (hW : W.length = 19) : ∀ k, k ≤ ps.length → SInv W (psTo op ps W k)
  | 0, _ => ⟨rfl, .inl rfl⟩
  | k + 1, hk => inP_inv h op hW (psTo_inv h op hW k (by omega)) (by omega) 2
theorem pass_more {n : Int} {ps : List Pp} (h : NetAt n ps) (op : Pp → Int → Bool) {W : List Bool} (hW : W.length = 19) (hp : (pass op ps W).2 = true) : (pass op ps W).1.length = 19 ∧ cnt W < cnt (pass op ps W).1 := by
  obtain ⟨h1, h2⟩ := psTo_inv h op hW ps.length (Nat.le_refl _)
  refine ⟨h1.trans hW, ?_⟩
  rcases h2 with h2 | h2
  · have : (pass op ps W).2 = false := by unfold pass; rw [h2]
    rw [hp] at this; cases this
  · exact h2.2
theorem spr_run {n : Int} {ps : List Pp} (h : NetAt n ps) (op : Pp → Int → Bool) : ∀ (f : Nat) (W : List Bool), W.length = 19 → 19 - cnt W < f → Spr op ps W (run op ps f W)
  | 0, W, _, h2 => absurd h2 (Nat.not_lt_zero _)
  | f + 1, W, h1, h2 => by
    rw [run]
    split
    · rename_i hp
      obtain ⟨k1, k2⟩ := pass_more h op h1 hp
      have := cnt_le (pass op ps W).1
      exact .more hp (spr_run h op f _ k1 (by omega))
    · rename_i hp
      exact .done (by simpa using hp)
theorem run_length {n : Int} {ps : List Pp} (h : NetAt n ps) (op : Pp → Int → Bool) : ∀ (f : Nat) (W : List Bool), W.length = 19 → (run op ps f W).length = 19
  | 0, W, h1 => h1
  | f + 1, W, h1 => by
    have := (psTo_inv h op h1 ps.length (Nat.le_refl _)).1
    rw [run]
    split
    · exact run_length h op f _ (this.trans h1)
    · exact this.trans h1
theorem inP_congr {op op' : Pp → Int → Bool} {p : Pp} (h : ∀ k, op p (endOfP p k) = op' p (endOfP p k)) (s : St) (i : Nat) : ∀ k, inP op s i p k = inP op' s i p k
  | 0 => rfl
  | k + 1 => by rw [inP, inP, inP_congr h s i k, h k]
theorem psTo_congr {op op' : Pp → Int → Bool} {ps : List Pp} (h : ∀ i, i < ps.length → ∀ k, op (ps.getD i pp0) (endOfP (ps.getD i pp0) k) = op' (ps.getD i pp0) (endOfP (ps.getD i pp0) k)) (W : List Bool) : ∀ k, k ≤ ps.length → psTo op ps W k = psTo op' ps W k
  | 0, _ => rfl
  | k + 1, hk => by rw [psTo, psTo, psTo_congr h W k (by omega), inP_congr (h k (by omega))]
theorem run_congr {op op' : Pp → Int → Bool} {ps : List Pp} (h : ∀ i, i < ps.length → ∀ k, op (ps.getD i pp0) (endOfP (ps.getD i pp0) k) = op' (ps.getD i pp0) (endOfP (ps.getD i pp0) k)) : ∀ (f : Nat) (W : List Bool), run op ps f W = run op' ps f W
  | 0, W => rfl
  | f + 1, W => by
    have e : pass op ps W = pass op' ps W := psTo_congr h W _ (Nat.le_refl _)
    rw [run, run, e, run_congr h f]
/-- the first elements: one node -/
def start (node : Int) : List Bool := (List.replicate 19 false).set node.toNat true
theorem start_length (node : Int) : (start node).length = 19 := by simp [start]
/-- what is reached from a node over ends that are open -/
def reach (op : Pp → Int → Bool) (ps : List Pp) (node : Int) : List Bool := run op ps 20 (start node)
theorem spr_reach {n : Int} {ps : List Pp} (h : NetAt n ps) (op : Pp → Int → Bool) (node : Int) : Spr op ps (start node) (reach op ps node) := spr_run h op 20 _ (start_length node) (by omega)
theorem reach_length {n : Int} {ps : List Pp} (h : NetAt n ps) (op : Pp → Int → Bool) (node : Int) : (reach op ps node).length = 19 := run_length h op 20 _ (start_length node)
end Go.Proofs.YtncblopbcnkinaaGreat
