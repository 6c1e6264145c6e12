/- Short, RecPp, RecVl, Spread, Days, Asc, Find, Net, NetS, Valves, RecNm, Put, Has, SpreadS, SpreadW, Reached, Dry, Wet, Reopen, Still, Sort, Sort2, MoveCopy, Order, Gentle, RecNet, Gentle2, Wait, Frac, in one text. -/
import Derived.Test.YtdbneadblnejgaaAm13
import Derived.Test.YtdbneadblnejgaaFacts
import Derived.Test.YtdbneadblnejgaaAm14
import Derived.Test.YtdbneadblnejgaaAm11
import Derived.Test.YtdbneadblnejgaaAm16
import Derived.Test.YtdbneadblnejgaaAm15
/- The steps of drawn regions, in few words. -/
namespace Go.Am
open Go.RowKit
set_option linter.unusedVariables false
theorem AAny.one1 {P : Program} {N : Nat} {H0 H Hf : Heap} {ops : Array Oper} {fr : Fr} {Q : APost} {f' : Nat} {listed : Array Bool} {tok' : Tok (P, N, H0, ops, Q, Hf, f', listed)} (fuel i : Nat) (h : vAt P ops i (kAt P N H0 ops Q Hf fuel (listed.setIfInBounds i true)) fr H)
    (hfu : f' = fuel + 1 := by kernel_rfl) (hd : (ops.toList.all fun o => Fr.dstOk N o.dst) = true := by kernel_rfl) (hr : Region.ready .any ops listed = [i] := by kernel_rfl) : AAny P N H0 ops Q Hf f' listed fr H tok' := AAny.one fuel i hfu hd hr h
theorem AAt.of1 {P : Program} {N : Nat} {H0 H Hf : Heap} {ops : Array Oper} {fr : Fr} {Q : APost} {f' : Nat} {listed : Array Bool} {tok : Tok (P, N, H0, ops, Q, Hf, f', listed)} (h2 : AAny P N H0 ops Q Hf f' listed fr H .mk)
    (h1 : SubH Hf H := by first | exact SubH.refl | exact SubH.app | exact SubH.both (by simp [subL])) : AAt P N H0 ops Q Hf f' listed fr H tok := AAt.of h1 h2
end Go.Am
/- Helpers of the laws on Pipe. -/
namespace Go.Proofs.Ytdbneadblnejgaa
open Go.Am
set_option linter.unusedVariables false
set_option linter.unusedSimpArgs false
set_option maxRecDepth 100000

abbrev Pp := Int × Int × Int × Int
def ppE (r : Pp) : List Value := [.int .i64 (r.1), .int .i64 (r.2.1), .int .i64 (r.2.2.1), .int .i64 (r.2.2.2)]
theorem ppE_flat (l : List Pp) : (l.flatMap ppE).all flat = true := flatMap_flat fun _ => rfl
theorem ppE_length (l : List Pp) : (l.flatMap ppE).length = l.length * 4 := flatMap_length ppE 4 (fun _ => rfl) l
/-- the marks that a law writes into a list -/
def marksPp (k0 : Int) (n : Nat) : List Pp := (List.range n).map fun (i : Nat) => (k0 + 4 * (i : Int) + 0, k0 + 4 * (i : Int) + 1, k0 + 4 * (i : Int) + 2, k0 + 4 * (i : Int) + 3)
theorem marksPp_length (k0 : Int) (n : Nat) : (marksPp k0 n).length = n := by simp [marksPp]
theorem marksPp_getD (k0 : Int) (n : Nat) {k : Nat} (h : k < n) : (marksPp k0 n).getD k (0, 0, 0, 0) = (k0 + 4 * (k : Int) + 0, k0 + 4 * (k : Int) + 1, k0 + 4 * (k : Int) + 2, k0 + 4 * (k : Int) + 3) := by simp [marksPp, List.getD, h]
def szPp (n left : Int) : Int := if left - n < 0 then -1 else left - n
theorem szPp_len {l : List Pp} {n : Int} (h : ¬ szPp l.length n < 0) : (l.length : Int) ≤ n := by
  unfold szPp at h
  split at h <;> omega
theorem szPp_rng {n : Nat} {left : Int} (h : ¬ szPp n left < 0) (h2 : left ≤ 1048576) : 0 ≤ szPp n left ∧ szPp n left ≤ 1048576 := by
  unfold szPp at h ⊢
  split at h <;> split <;> omega
end Go.Proofs.Ytdbneadblnejgaa
/- Helpers of the laws on Valve. -/
namespace Go.Proofs.Ytdbneadblnejgaa
open Go.Am
set_option linter.unusedVariables false
set_option linter.unusedSimpArgs false
set_option maxRecDepth 100000

abbrev Vl := Int × Int × Int × Bool
def vlE (r : Vl) : List Value := [.int .i64 (r.1), .int .i64 (r.2.1), .int .i64 (r.2.2.1), .bool (r.2.2.2)]
theorem vlE_flat (l : List Vl) : (l.flatMap vlE).all flat = true := flatMap_flat fun _ => rfl
theorem vlE_length (l : List Vl) : (l.flatMap vlE).length = l.length * 4 := flatMap_length vlE 4 (fun _ => rfl) l
/-- the marks that a law writes into a list -/
def marksVl (k0 : Int) (n : Nat) : List Vl := (List.range n).map fun (i : Nat) => (k0 + 4 * (i : Int) + 0, k0 + 4 * (i : Int) + 1, k0 + 4 * (i : Int) + 2, decide ((k0 + 4 * (i : Int) + 3) % 3 = 0))
theorem marksVl_length (k0 : Int) (n : Nat) : (marksVl k0 n).length = n := by simp [marksVl]
theorem marksVl_getD (k0 : Int) (n : Nat) {k : Nat} (h : k < n) : (marksVl k0 n).getD k (0, 0, 0, false) = (k0 + 4 * (k : Int) + 0, k0 + 4 * (k : Int) + 1, k0 + 4 * (k : Int) + 2, decide ((k0 + 4 * (k : Int) + 3) % 3 = 0)) := by simp [marksVl, List.getD, h]
def szVl (n left : Int) : Int := if left - n < 0 then -1 else left - n
theorem szVl_len {l : List Vl} {n : Int} (h : ¬ szVl l.length n < 0) : (l.length : Int) ≤ n := by
  unfold szVl at h
  split at h <;> omega
theorem szVl_rng {n : Nat} {left : Int} (h : ¬ szVl n left < 0) (h2 : left ≤ 1048576) : 0 ≤ szVl n left ∧ szVl n left ≤ 1048576 := by
  unfold szVl at h ⊢
  split at h <;> split <;> omega
end Go.Proofs.Ytdbneadblnejgaa
/- Spreading over pipes, in plain Lean: one round after the other until nothing is reached any more. -/
namespace Go.Proofs.Ytdbneadblnejgaa
open Go.Am
set_option linter.unusedVariables false
set_option linter.unusedSimpArgs false

abbrev pp0 : Pp := (0, 0, 0, 0)
abbrev vl0 : Vl := (0, 0, 0, false)
def cnt : List Bool → Nat
  | [] => 0
  | b :: l => (if b then 1 else 0) + cnt l
theorem cnt_le : ∀ l : List Bool, cnt l ≤ l.length
  | [] => Nat.le_refl _
  | b :: l => by have := cnt_le l; cases b <;> simp [cnt] <;> omega
theorem cnt_set : ∀ (l : List Bool) (i : Nat), i < l.length → cnt (l.set i true) + (if l.getD i false then 1 else 0) = cnt l + 1
  | [], i, h => absurd h (by simp)
  | b :: l, 0, h => by cases b <;> simp [cnt] <;> omega
  | b :: l, i + 1, h => by
    have := cnt_set l i (by simpa using h)
    simp only [List.set_cons_succ, cnt, List.getD_cons_succ]
    omega
theorem getD_set_ne {l : List Bool} {i j : Nat} (h : i ≠ j) (b : Bool) : (l.set i b).getD j false = l.getD j false := by
  simp [List.getD_eq_getElem?_getD, List.getElem?_set_ne h]
theorem getD_set_eq {l : List Bool} {i : Nat} (h : i < l.length) (b : Bool) : (l.set i b).getD i false = b := by
  simp [List.getD_eq_getElem?_getD, List.getElem?_set_self h]

abbrev St := List Bool × Bool
/-- one end of a pipe: a is the node's place, b the pipe's -/
def stepAt (o : Bool) (s : St) (a b : Nat) : St := if s.1.getD a false != s.1.getD b false && o then ((s.1.set a true).set b true, true) else s
def endOfP (p : Pp) (k : Nat) : Int := if k = 0 then p.2.1 else p.2.2.1
def inP (op : Pp → Int → Bool) (s : St) (i : Nat) (p : Pp) : Nat → St
  | 0 => s
  | k + 1 => stepAt (op p (endOfP p k)) (inP op s i p k) (endOfP p k).toNat (9 + i)
def psTo (op : Pp → Int → Bool) (ps : List Pp) (W : List Bool) : Nat → St
  | 0 => (W, false)
  | i + 1 => inP op (psTo op ps W i) i (ps.getD i pp0) 2
def pass (op : Pp → Int → Bool) (ps : List Pp) (W : List Bool) : St := psTo op ps W ps.length
def run (op : Pp → Int → Bool) (ps : List Pp) : Nat → List Bool → List Bool
  | 0, W => W
  | f + 1, W => if (pass op ps W).2 then run op ps f (pass op ps W).1 else (pass op ps W).1
inductive Spr (op : Pp → Int → Bool) (ps : List Pp) : List Bool → List Bool → Prop
  | done {W} (h : (pass op ps W).2 = false) : Spr op ps W (pass op ps W).1
  | more {W R} (h : (pass op ps W).2 = true) (k : Spr op ps (pass op ps W).1 R) : Spr op ps W R
theorem Spr.get_done {op : Pp → Int → Bool} {ps : List Pp} {W R : List Bool} (h : Spr op ps W R) (hp : (pass op ps W).2 = false) : R = (pass op ps W).1 := by
  cases h with
  | done _ => rfl
  | more h _ => rw [hp] at h; cases h
theorem Spr.get_more {op : Pp → Int → Bool} {ps : List Pp} {W R : List Bool} (h : Spr op ps W R) (hp : (pass op ps W).2 = true) : Spr op ps (pass op ps W).1 R := by
  cases h with
  | done h => rw [hp] at h; cases h
  | more _ h => exact h
/-- what holds of the state of a round that began with W -/
def SInv (W : List Bool) (s : St) : Prop := s.1.length = W.length ∧ (s = (W, false) ∨ (s.2 = true ∧ cnt W < cnt s.1))
theorem stepAt_inv {W : List Bool} {s : St} (h : SInv W s) (o : Bool) {a b : Nat} (ha : a < W.length) (hb : b < W.length) (hab : a ≠ b) : SInv W (stepAt o s a b) := by
  unfold stepAt
  split
  · rename_i hc
    have hne : s.1.getD a false ≠ s.1.getD b false := by
      simp only [Bool.and_eq_true, bne_iff_ne] at hc; exact hc.1
    obtain ⟨h1, h2⟩ := h
    refine ⟨by simp [h1], .inr ⟨rfl, ?_⟩⟩
    have c1 := cnt_set s.1 a (by omega)
    have c2 := cnt_set (s.1.set a true) b (by simp; omega)
    rw [getD_set_ne hab] at c2
    show cnt W < cnt ((s.1.set a true).set b true)
    have h3 : cnt W ≤ cnt s.1 := by
      rcases h2 with h2 | h2
      · rw [h2]; exact Nat.le_refl _
      · omega
    cases h4 : s.1.getD a false <;> cases h5 : s.1.getD b false <;> rw [h4] at c1 hne <;> rw [h5] at c2 hne <;> simp at c1 c2 hne <;> omega
  · exact h
/-- the pipes of a network: their ends are nodes -/
structure NetAt (n : Int) (ps : List Pp) : Prop where
  f_n : 1 ≤ n ∧ n ≤ 8
  f_len : ps.length ≤ 10
  f_end : ∀ i, i < ps.length → 1 ≤ (ps.getD i pp0).2.1 ∧ (ps.getD i pp0).2.1 ≤ n ∧ 1 ≤ (ps.getD i pp0).2.2.1 ∧ (ps.getD i pp0).2.2.1 ≤ n
  f_ne : ∀ i, i < ps.length → (ps.getD i pp0).2.1 ≠ (ps.getD i pp0).2.2.1
  f_id : ∀ i, i < ps.length → 1 ≤ (ps.getD i pp0).1 ∧ (ps.getD i pp0).1 ≤ 99
  f_asc : ∀ i, i < ps.length → 0 < i → (ps.getD (i - 1) pp0).1 < (ps.getD i pp0).1
theorem NetAt.end_ {n : Int} {ps : List Pp} (h : NetAt n ps) {i : Nat} (hi : i < ps.length) (k : Nat) : 1 ≤ endOfP (ps.getD i pp0) k ∧ endOfP (ps.getD i pp0) k ≤ 8 := by
  have := h.f_end i hi
  have := h.f_n
  unfold endOfP
  split <;> omega
theorem inP_inv {n : Int} {ps : List Pp} (h : NetAt n ps) (op : Pp → Int → Bool) {W : List Bool} (hW : W.length = 19) {s : St} (hs : SInv W s) {i : Nat} (hi : i < ps.length) : ∀ k, SInv W (inP op s i (ps.getD i pp0) k)
  | 0 => hs
  | k + 1 => by
    have := h.end_ hi k
    have := h.f_len
    exact stepAt_inv (inP_inv h op hW hs hi k) _ (by omega) (by omega) (by omega)
theorem psTo_inv {n : Int} {ps : List Pp} (h : NetAt n ps) (op : Pp → Int → Bool) {W : List Bool} (hW : W.length = 19) : ∀ k, k ≤ ps.length → SInv W (psTo op ps W k)
  | 0, _ => ⟨rfl, .inl rfl⟩
  | k + 1, hk => inP_inv h op hW (psTo_inv h op hW k (by omega)) (by omega) 2
theorem pass_more {n : Int} {ps : List Pp} (h : NetAt n ps) (op : Pp → Int → Bool) {W : List Bool} (hW : W.length = 19) (hp : (pass op ps W).2 = true) : (pass op ps W).1.length = 19 ∧ cnt W < cnt (pass op ps W).1 := by
  obtain ⟨h1, h2⟩ := psTo_inv h op hW ps.length (Nat.le_refl _)
  refine ⟨h1.trans hW, ?_⟩
  rcases h2 with h2 | h2
  · have : (pass op ps W).2 = false := by unfold pass; rw [h2]
    rw [hp] at this; cases this
  · exact h2.2
theorem spr_run {n : Int} {ps : List Pp} (h : NetAt n ps) (op : Pp → Int → Bool) : ∀ (f : Nat) (W : List Bool), W.length = 19 → 19 - cnt W < f → Spr op ps W (run op ps f W)
  | 0, W, _, h2 => absurd h2 (Nat.not_lt_zero _)
  | f + 1, W, h1, h2 => by
    rw [run]
    split
    · rename_i hp
      obtain ⟨k1, k2⟩ := pass_more h op h1 hp
      have := cnt_le (pass op ps W).1
      exact .more hp (spr_run h op f _ k1 (by omega))
    · rename_i hp
      exact .done (by simpa using hp)
theorem run_length {n : Int} {ps : List Pp} (h : NetAt n ps) (op : Pp → Int → Bool) : ∀ (f : Nat) (W : List Bool), W.length = 19 → (run op ps f W).length = 19
  | 0, W, h1 => h1
  | f + 1, W, h1 => by
    have := (psTo_inv h op h1 ps.length (Nat.le_refl _)).1
    rw [run]
    split
    · exact run_length h op f _ (this.trans h1)
    · exact this.trans h1
theorem inP_congr {op op' : Pp → Int → Bool} {p : Pp} (h : ∀ k, op p (endOfP p k) = op' p (endOfP p k)) (s : St) (i : Nat) : ∀ k, inP op s i p k = inP op' s i p k
  | 0 => rfl
  | k + 1 => by rw [inP, inP, inP_congr h s i k, h k]
theorem psTo_congr {op op' : Pp → Int → Bool} {ps : List Pp} (h : ∀ i, i < ps.length → ∀ k, op (ps.getD i pp0) (endOfP (ps.getD i pp0) k) = op' (ps.getD i pp0) (endOfP (ps.getD i pp0) k)) (W : List Bool) : ∀ k, k ≤ ps.length → psTo op ps W k = psTo op' ps W k
  | 0, _ => rfl
  | k + 1, hk => by rw [psTo, psTo, psTo_congr h W k (by omega), inP_congr (h k (by omega))]
theorem run_congr {op op' : Pp → Int → Bool} {ps : List Pp} (h : ∀ i, i < ps.length → ∀ k, op (ps.getD i pp0) (endOfP (ps.getD i pp0) k) = op' (ps.getD i pp0) (endOfP (ps.getD i pp0) k)) : ∀ (f : Nat) (W : List Bool), run op ps f W = run op' ps f W
  | 0, W => rfl
  | f + 1, W => by
    have e : pass op ps W = pass op' ps W := psTo_congr h W _ (Nat.le_refl _)
    rw [run, run, e, run_congr h f]
/-- the first elements: one node -/
def start (node : Int) : List Bool := (List.replicate 19 false).set node.toNat true
theorem start_length (node : Int) : (start node).length = 19 := by simp [start]
/-- what is reached from a node over ends that are open -/
def reach (op : Pp → Int → Bool) (ps : List Pp) (node : Int) : List Bool := run op ps 20 (start node)
theorem spr_reach {n : Int} {ps : List Pp} (h : NetAt n ps) (op : Pp → Int → Bool) (node : Int) : Spr op ps (start node) (reach op ps node) := spr_run h op 20 _ (start_length node) (by omega)
theorem reach_length {n : Int} {ps : List Pp} (h : NetAt n ps) (op : Pp → Int → Bool) (node : Int) : (reach op ps node).length = 19 := run_length h op 20 _ (start_length node)
end Go.Proofs.Ytdbneadblnejgaa
/- Bounds and days. -/
namespace Go.Proofs.Ytdbneadblnejgaa
open Go.Am
set_option linter.unusedVariables false
set_option linter.unusedSimpArgs false
set_option maxRecDepth 100000

def inB (n a b : Int) : Bool := decide (a ≤ n) && decide (n ≤ b)
theorem inside_A (n a b : Int) (H : Heap) : AFunC Try.prog 27 [.int .i64 n, .int .i64 a, .int .i64 b] H (.bool (inB n a b)) H := by
  refine AFunC.of_body Try.func27 (by kernel_rfl) rfl (by kernel_rfl) (by simp [Try.ntmps27]) ?_
  simp -dsimp -implicitDefEqProofs (disch := omega) [go_sem, -List.getD_eq_getElem?_getD, ite_yes]
  refine AIf.of (fun h => ?_) (fun h => ?_) <;> simp at h <;> simp -dsimp -implicitDefEqProofs (disch := omega) [go_sem, -List.getD_eq_getElem?_getD, ite_yes] <;> exact fin_flat0 rfl (by simp [inB]; omega)
theorem l1In_A (n a b : Int) (H : Heap) : AFunC Try.prog 34 [.int .i64 n, .int .i64 a, .int .i64 b] H (.bool (inB n a b)) H := by
  refine AFunC.of_body Try.func34 (by kernel_rfl) rfl (by kernel_rfl) (by simp [Try.ntmps34]) ?_
  simp -dsimp -implicitDefEqProofs (disch := omega) [go_sem, -List.getD_eq_getElem?_getD, ite_yes]
  refine AIf.of (fun h => ?_) (fun h => ?_) <;> simp at h <;> simp -dsimp -implicitDefEqProofs (disch := omega) [go_sem, -List.getD_eq_getElem?_getD, ite_yes] <;> exact fin_flat0 rfl (by simp [inB]; omega)
end Go.Proofs.Ytdbneadblnejgaa
/- Lists whose elements stand as they should, and whose keys ascend. -/
namespace Go.Proofs.Ytdbneadblnejgaa
section
variable {α : Type} {d : α} {P : α → Bool} {R : α → α → Bool} {l : List α} {k : Nat}
/-- the first k elements stand as they should: each by itself, and each beside the one before -/
def ascTo (d : α) (P : α → Bool) (R : α → α → Bool) (l : List α) (k : Nat) : Prop := ∀ i, i < k → P (l.getD i d) = true ∧ (0 < i → R (l.getD (i - 1) d) (l.getD i d) = true)
instance ascTo_dec (d : α) (P : α → Bool) (R : α → α → Bool) (l : List α) (k : Nat) : Decidable (ascTo d P R l k) := by unfold ascTo; infer_instance
def asc (d : α) (P : α → Bool) (R : α → α → Bool) (l : List α) : Bool := decide (ascTo d P R l l.length)
theorem ascTo_zero : ascTo d P R l 0 := fun i hi => by omega
theorem ascTo.next (h : ascTo d P R l k) (h1 : P (l.getD k d) = true) (h2 : 0 < k → R (l.getD (k - 1) d) (l.getD k d) = true) : ascTo d P R l (k + 1) := by
  intro i hi
  rcases Nat.lt_or_ge i k with h' | h'
  · exact h i h'
  · obtain rfl : i = k := by omega
    exact ⟨h1, h2⟩
theorem asc_no (hk : k < l.length) (h : P (l.getD k d) = false ∨ 0 < k ∧ R (l.getD (k - 1) d) (l.getD k d) = false) : asc d P R l = false := by
  unfold asc
  refine decide_eq_false fun h' => ?_
  have := h' k hk
  rcases h with h | ⟨h0, h⟩
  · rw [this.1] at h; cases h
  · rw [this.2 h0] at h; cases h
theorem asc_yes (h : ascTo d P R l l.length) : asc d P R l = true := decide_eq_true h
theorem asc_at (h : asc d P R l = true) : ∀ i, i < l.length → P (l.getD i d) = true ∧ (0 < i → R (l.getD (i - 1) d) (l.getD i d) = true) := of_decide_eq_true h
end
end Go.Proofs.Ytdbneadblnejgaa
/- The first place where a predicate holds. -/
namespace Go.Proofs.Ytdbneadblnejgaa
/-- the first place where p holds, or -1 -/
def findTo {α : Type} (d : α) (p : α → Bool) (l : List α) (k : Nat) : Prop := ∀ i, i < k → p (l.getD i d) = false
inductive Found {α : Type} (d : α) (p : α → Bool) (l : List α) : Int → Prop
  | yes (i : Nat) (h1 : i < l.length) (h2 : p (l.getD i d) = true) (h3 : findTo d p l i) : Found d p l i
  | no (h : findTo d p l l.length) : Found d p l (-1)
theorem found_ex {α : Type} (d : α) (p : α → Bool) (l : List α) : ∀ (m k : Nat), l.length - k = m → findTo d p l k → k ≤ l.length → ∃ i, Found d p l i
  | 0, k, h1, h2, h3 => ⟨-1, .no (by rwa [show l.length = k by omega])⟩
  | m + 1, k, h1, h2, h3 => by
    cases hp : p (l.getD k d)
    · refine found_ex d p l m (k + 1) (by omega) (fun i hi => ?_) (by omega)
      rcases Nat.lt_or_ge i k with h | h
      · exact h2 i h
      · rw [show i = k by omega]; exact hp
    · exact ⟨k, .yes k (by omega) hp h2⟩
theorem found_uniq {α : Type} {d : α} {p : α → Bool} {l : List α} {i j : Int} (h : Found d p l i) (k : Found d p l j) : i = j := by
  cases h with
  | yes i h1 h2 h3 => cases k with
    | yes j k1 k2 k3 =>
      rcases Nat.lt_trichotomy i j with h | h | h
      · have := k3 i h; rw [h2] at this; cases this
      · rw [h]
      · have := h3 j h; rw [k2] at this; cases this
    | no k => have := k i h1; rw [h2] at this; cases this
  | no h => cases k with
    | yes j k1 k2 k3 => have := h j k1; rw [k2] at this; cases this
    | no k => rfl
theorem findTo.next {α : Type} {d : α} {p : α → Bool} {l : List α} {k : Nat} (h : findTo d p l k) (hp : p (l.getD k d) = false) : findTo d p l (k + 1) := fun i hi => by
  rcases Nat.lt_or_ge i k with h' | h'
  · exact h i h'
  · rw [show i = k by omega]; exact hp
end Go.Proofs.Ytdbneadblnejgaa
/- Networks: what is valid, and where a pipe is. -/
namespace Go.Proofs.Ytdbneadblnejgaa
open Go.Am
set_option linter.unusedVariables false
set_option linter.unusedSimpArgs false
set_option maxRecDepth 100000
set_option maxHeartbeats 1000000

/-- a network's value -/
abbrev netV (n : Int) (tp len cp : Nat) : Value := .agg #[.int .i64 n, .slice (some ⟨tp, 0, none⟩) len cp]
theorem wl_net {n : Int} {t len c m j : Nat} {js : List (Option Nat)} (ht : t < m) : WL (sg m js) (m + j) [.int .i64 n, .slice (some ⟨t, 0, none⟩) len c] [.int .i64 n, .slice (some ⟨t, 0, none⟩) len c] :=
  have h : t < m + j := by omega
  .inr ⟨rfl, ⟨h, .inl ⟨t, c, by simp [sg, ht], rfl⟩⟩, trivial⟩
def isPp (n : Int) (p : Pp) : Bool := inB p.1 1 99 && (inB p.2.1 1 n && (inB p.2.2.1 1 n && (!decide (p.2.1 = p.2.2.1) && inB p.2.2.2 1 9)))
def ppR (a b : Pp) : Bool := decide (a.1 < b.1)
abbrev goodNTo (n : Int) (l : List Pp) (k : Nat) : Prop := ascTo pp0 (isPp n) ppR l k
def goodN (n : Int) (l : List Pp) : Bool := (inB n 1 8 && decide (l.length ≤ 10)) && asc pp0 (isPp n) ppR l
theorem goodN_no {n : Int} {l : List Pp} {k : Nat} (hk : k < l.length) (h : isPp n (l.getD k pp0) = false ∨ 0 < k ∧ ppR (l.getD (k - 1) pp0) (l.getD k pp0) = false) : goodN n l = false := by
  unfold goodN
  rw [asc_no hk h, Bool.and_false]
theorem goodN_end {n : Int} {l : List Pp} (h : goodNTo n l l.length) : goodN n l = (inB n 1 8 && decide (l.length ≤ 10)) := by
  unfold goodN
  rw [asc_yes h, Bool.and_true]
theorem NetAt.of {n : Int} {l : List Pp} (h : goodN n l = true) : NetAt n l := by
  unfold goodN at h
  simp only [Bool.and_eq_true, decide_eq_true_eq] at h
  obtain ⟨⟨h1, h2⟩, h3⟩ := h
  have h3 := asc_at h3
  simp only [inB, Bool.and_eq_true, decide_eq_true_eq] at h1
  refine ⟨h1, h2, fun i hi => ?_, fun i hi => ?_, fun i hi => ?_, fun i hi h0 => ?_⟩
  · have := (h3 i hi).1
    simp [isPp, inB, List.getD_eq_getElem?_getD] at this ⊢
    omega
  · have := (h3 i hi).1
    simp [isPp, inB, List.getD_eq_getElem?_getD] at this ⊢
    omega
  · have := (h3 i hi).1
    simp [isPp, inB, List.getD_eq_getElem?_getD] at this ⊢
    omega
  · have := (h3 i hi).2 h0
    simpa [ppR] using this
end Go.Proofs.Ytdbneadblnejgaa
/- Networks: the other side, and where a pipe or a valve is. -/
namespace Go.Proofs.Ytdbneadblnejgaa
open Go.Am
set_option linter.unusedVariables false
set_option linter.unusedSimpArgs false
set_option maxRecDepth 100000
set_option maxHeartbeats 1000000

/-- the place of a pipe or a valve, or -1 -/
def ixOf {α : Type} (p : α → Bool) : List α → Int
  | [] => -1
  | a :: l => if p a then 0 else if ixOf p l < 0 then -1 else ixOf p l + 1
theorem found_ix {α : Type} (d : α) (p : α → Bool) : ∀ l : List α, Found d p l (ixOf p l)
  | [] => .no fun i hi => absurd hi (Nat.not_lt_zero _)
  | a :: l => by
    unfold ixOf
    by_cases ha : p a = true
    · rw [if_pos ha]
      exact .yes 0 (by simp) ha fun i hi => absurd hi (Nat.not_lt_zero _)
    · rw [if_neg ha]
      have h0 : p a = false := by simpa using ha
      have ih := found_ix d p l
      cases e : ixOf p l using Int.rec <;> rw [e] at ih
      · rename_i k
        rw [if_neg (by simp)]
        cases ih with
        | yes i h1 h2 h3 =>
          refine .yes (k + 1) (by simp; omega) h2 fun i hi => ?_
          cases i with
          | zero => exact h0
          | succ i => exact h3 i (by omega)
      · rename_i k
        rw [if_pos (by omega)]
        generalize hz : Int.negSucc k = z at ih
        cases ih with
        | yes i => omega
        | no h =>
          refine .no fun i hi => ?_
          cases i with
          | zero => exact h0
          | succ i => exact h i (by simpa using hi)
def pipeIs (id : Int) (p : Pp) : Bool := decide (p.1 = id)
def pipeIx (l : List Pp) (id : Int) : Int := ixOf (pipeIs id) l
end Go.Proofs.Ytdbneadblnejgaa
/- Valves: what is valid, and where one is. -/
namespace Go.Proofs.Ytdbneadblnejgaa
open Go.Am
set_option linter.unusedVariables false
set_option linter.unusedSimpArgs false
set_option maxRecDepth 100000
set_option maxHeartbeats 2000000

theorem ix_cases {α : Type} (d : α) (p : α → Bool) (l : List α) : (ixOf p l = -1 ∧ ∀ i, i < l.length → p (l.getD i d) = false) ∨ ∃ q : Nat, ixOf p l = (q : Int) ∧ q < l.length ∧ p (l.getD q d) = true ∧ ∀ i, i < q → p (l.getD i d) = false := by
  have h := found_ix d p l
  generalize ixOf p l = r at *
  cases h with
  | yes i h1 h2 h3 => exact .inr ⟨i, rfl, h1, h2, h3⟩
  | no h => exact .inl ⟨rfl, h⟩
theorem getD_take' {α : Type} {l : List α} {i k : Nat} {d : α} (h : i < k) : (l.take k).getD i d = l.getD i d := by
  rw [List.getD_eq_getElem?_getD, List.getElem?_take_of_lt h, ← List.getD_eq_getElem?_getD]
/-- whether a pipe has a node as one of its ends -/
def onP (ps : List Pp) (id nd : Int) : Bool := decide (0 ≤ pipeIx ps id) && (decide ((ps.getD (pipeIx ps id).toNat pp0).2.1 = nd) || decide ((ps.getD (pipeIx ps id).toNat pp0).2.2.1 = nd))
def sameV (v x : Vl) : Bool := decide (x.2.1 = v.2.1) && decide (x.2.2.1 = v.2.2.1)
def twinV (l : List Vl) (i : Nat) : Bool := decide (0 ≤ ixOf (sameV (l.getD i vl0)) (l.take i))
def oneV (ps : List Pp) (l : List Vl) (i : Nat) : Bool := inB (l.getD i vl0).1 1 99 && (!(decide (0 < i) && decide ((l.getD i vl0).1 ≤ (l.getD (i - 1) vl0).1)) && (onP ps (l.getD i vl0).2.1 (l.getD i vl0).2.2.1 && !twinV l i))
def goodVTo (ps : List Pp) (l : List Vl) (k : Nat) : Prop := ∀ i, i < k → oneV ps l i = true
instance goodVTo_dec (ps : List Pp) (l : List Vl) (k : Nat) : Decidable (goodVTo ps l k) := by unfold goodVTo; infer_instance
def goodV (n : Int) (ps : List Pp) (l : List Vl) : Bool := goodN n ps && (decide (l.length ≤ 10) && decide (goodVTo ps l l.length))
theorem goodVTo.next {ps : List Pp} {l : List Vl} {k : Nat} (h : goodVTo ps l k) (h1 : oneV ps l k = true) : goodVTo ps l (k + 1) := by
  intro i hi
  rcases Nat.lt_or_ge i k with h' | h'
  · exact h i h'
  · obtain rfl : i = k := by omega
    exact h1
theorem goodV_no {n : Int} {ps : List Pp} {l : List Vl} {k : Nat} (hk : k < l.length) (h : oneV ps l k = false) : goodV n ps l = false := by
  unfold goodV
  rw [decide_eq_false (p := goodVTo ps l l.length) (fun h' => by have := h' k hk; rw [h] at this; cases this), Bool.and_false, Bool.and_false]
theorem goodV_end {n : Int} {ps : List Pp} {l : List Vl} (hn : goodN n ps = true) (hl : l.length ≤ 10) (h : goodVTo ps l l.length) : goodV n ps l = true := by
  unfold goodV
  rw [hn, decide_eq_true hl, decide_eq_true h]; rfl
theorem wl_vl {σ : Sig} {m : Nat} (v : Vl) : WL σ m [.int .i64 v.1, .int .i64 v.2.1, .int .i64 v.2.2.1, .bool v.2.2.2] [.int .i64 v.1, .int .i64 v.2.1, .int .i64 v.2.2.1, .bool v.2.2.2] := .inl ⟨rfl, rfl⟩


theorem twinV_yes {l : List Vl} {m k : Nat} (hmk : m < k) (hml : m < l.length) (h : sameV (l.getD k vl0) (l.getD m vl0) = true) : twinV l k = true := by
  unfold twinV
  rcases ix_cases vl0 (sameV (l.getD k vl0)) (l.take k) with ⟨_, h2⟩ | ⟨q, h2, _⟩
  · have := h2 m (by rw [List.length_take]; omega)
    rw [getD_take' hmk, h] at this
    cases this
  · rw [h2]; exact decide_eq_true (by omega)
theorem twinV_no {l : List Vl} {k : Nat} (hk : k ≤ l.length) (h : findTo vl0 (sameV (l.getD k vl0)) l k) : twinV l k = false := by
  unfold twinV
  rcases ix_cases vl0 (sameV (l.getD k vl0)) (l.take k) with ⟨h2, _⟩ | ⟨q, h2, h3, h4, _⟩
  · rw [h2]; rfl
  · rw [List.length_take] at h3
    rw [getD_take' (by omega), h q (by omega)] at h4
    cases h4

end Go.Proofs.Ytdbneadblnejgaa
/- Helpers of the laws on Int. -/
namespace Go.Proofs.Ytdbneadblnejgaa
open Go.Am
set_option linter.unusedVariables false
set_option linter.unusedSimpArgs false
set_option maxRecDepth 100000

abbrev Nm := Int
def nmE (r : Nm) : List Value := [.int .i64 (r)]
theorem nmE_flat (l : List Nm) : (l.flatMap nmE).all flat = true := flatMap_flat fun _ => rfl
theorem nmE_length (l : List Nm) : (l.flatMap nmE).length = l.length * 1 := flatMap_length nmE 1 (fun _ => rfl) l
/-- the marks that a law writes into a list -/
def marksNm (k0 : Int) (n : Nat) : List Nm := (List.range n).map fun (i : Nat) => k0 + 1 * (i : Int) + 0
theorem marksNm_length (k0 : Int) (n : Nat) : (marksNm k0 n).length = n := by simp [marksNm]
theorem marksNm_getD (k0 : Int) (n : Nat) {k : Nat} (h : k < n) : (marksNm k0 n).getD k 0 = k0 + 1 * (k : Int) + 0 := by simp [marksNm, List.getD, h]
def szNm (n left : Int) : Int := if left - n < 0 then -1 else left - n
theorem szNm_A (n c : Nat) (hn : (n : Int) ≤ 9223372036854775807) (left : Int) (h0 : 0 ≤ left) (h1 : left ≤ 9223372036854775807) (t : Nat) (H : Heap) : AFunC Try.prog 23 [.slice (some ⟨t, 0, none⟩) n c, .int .i64 left] H (.int .i64 (szNm n left)) H := by
  refine AFunC.of_body Try.func23 (by kernel_rfl) rfl (by kernel_rfl) (by simp [Try.ntmps23]) ?_
  simp -dsimp -implicitDefEqProofs (disch := omega) [go_sem, -List.getD_eq_getElem?_getD, ite_yes]
  refine AIf.of (fun h => ?_) (fun h => ?_)
  · simp -dsimp -implicitDefEqProofs (disch := omega) [go_sem, -List.getD_eq_getElem?_getD, ite_yes]
    exact fin_flat0 rfl (by simp at h; simp [szNm, h])
  · simp -dsimp -implicitDefEqProofs (disch := omega) [go_sem, -List.getD_eq_getElem?_getD, ite_yes]
    exact fin_flat0 rfl (by simp at h; simp [szNm]; omega)
theorem szNm_len {l : List Nm} {n : Int} (h : ¬ szNm l.length n < 0) : (l.length : Int) ≤ n := by
  unfold szNm at h
  split at h <;> omega
theorem szNm_rng {n : Nat} {left : Int} (h : ¬ szNm n left < 0) (h2 : left ≤ 1048576) : 0 ≤ szNm n left ∧ szNm n left ≤ 1048576 := by
  unfold szNm at h ⊢
  split at h <;> split <;> omega
theorem toNmS_A (l : List Nm) (hl : l.length ≤ 1048577) (c : Nat) (H : Heap) (t : Nat) (hS : Sl nmE H t l) :
    AFunC Try.prog 26 [.slice (some ⟨t, 0, none⟩) l.length c] H (.slice (some ⟨H.length, 0, none⟩) l.length l.length) (H ++ [some ⟨l.flatMap nmE, true, 3, 1⟩]) := by
  refine AFunC.of_body Try.func26 (by kernel_rfl) rfl (by kernel_rfl) (by simp [Try.ntmps26]) ?_
  have ht := hS.lt
  have cs := fun k hk => hS.one (g := fun n => Value.int .i64 n) 0 k hk
  try simp only [nmE] at cs
  simp -dsimp -implicitDefEqProofs (disch := omega) [go_sem, -List.getD_eq_getElem?_getD, ite_yes]
  refine ⟨by omega, ?_⟩
  refine ALoop.intro (ι := Nat) (fun k => k ≤ l.length) (fun k => [(0, .slice (some ⟨t, 0, none⟩) l.length c), (3, .slice (some ⟨H.length, 0, none⟩) l.length l.length), (4, .int .i64 k)]) (fun k => H ++ [some ⟨fillS nmE [.int .i64 0] l k, true, 3, 1⟩]) (fun k => l.length - k) 0 (by omega) ?_ ?_
  · refine weakS_mk [some 0] rfl ?_ (by simp -dsimp -implicitDefEqProofs (disch := omega) [go_sem, -List.getD_eq_getElem?_getD, ite_yes, ht])
    simp -dsimp -implicitDefEqProofs (disch := omega) [go_sem, -List.getD_eq_getElem?_getD, ite_yes]
    exact .inl ⟨by simp [fillS], by simp [flat]⟩
  · intro k hk
    have hfl := fillS_length (f := nmE) (s := 1) (zs := [.int .i64 0]) (fun _ => rfl) rfl hk
    by_cases hlt : k < l.length
    · simp -dsimp -implicitDefEqProofs (disch := omega) [go_sem, -List.getD_eq_getElem?_getD, ite_yes, hlt, cs, ht, hfl, Nat.mul_one]
      skip
      refine LoopEnd.of (k + 1) (by omega) (by omega) (weakS_mk [some 0] rfl ?_ (by simp -dsimp -implicitDefEqProofs (disch := omega) [go_sem, -List.getD_eq_getElem?_getD, ite_yes, ht]))
      simp -dsimp -implicitDefEqProofs (disch := omega) [go_sem, -List.getD_eq_getElem?_getD, ite_yes, ht]
      have e := fillS_set (f := nmE) (s := 1) (zs := [.int .i64 0]) (fun _ => rfl) rfl 0 hlt
      have e : (fillS nmE [.int .i64 0] l k).set k (.int .i64 (l.getD k 0)) = fillS nmE [.int .i64 0] l (k + 1) := by
        rw [List.set_eq_take_append_cons_drop, if_pos (by omega)]
        simpa [nmE] using e
      exact .inl ⟨e.symm, (congrArg (fun x => List.all x flat) e).trans (fillS_flat (fun _ => rfl) rfl)⟩
    · simp -dsimp -implicitDefEqProofs (disch := omega) [go_sem, -List.getD_eq_getElem?_getD, ite_yes, hlt]
      obtain rfl : k = l.length := by omega
      refine fin_list [some 0] rfl ?_ (by simp -dsimp -implicitDefEqProofs (disch := omega) [go_sem, -List.getD_eq_getElem?_getD, ite_yes, ht])
      simp -dsimp -implicitDefEqProofs (disch := omega) [go_sem, -List.getD_eq_getElem?_getD, ite_yes]
      exact .inl ⟨fillS_all.symm, by rw [fillS_all]; exact flatMap_flat fun _ => rfl⟩
theorem eqNmS_A (l m : List Nm) (hl : l.length ≤ 1048577) (hm : m.length ≤ 1048577) (c d : Nat) (H : Heap) (t u : Nat) (hS : Sl nmE H t l) (hU : Sl nmE H u m) :
    AFunC Try.prog 8 [.slice (some ⟨t, 0, none⟩) l.length c, .slice (some ⟨u, 0, none⟩) m.length d] H (.bool (decide (l = m))) H := by
  refine AFunC.of_body Try.func8 (by kernel_rfl) rfl (by kernel_rfl) (by simp [Try.ntmps8]) ?_
  have ht := hS.lt
  have hu := hU.lt
  have cs := fun k hk => hS.one (g := fun n => Value.int .i64 n) 0 k hk
  have cu := fun k hk => hU.one (g := fun n => Value.int .i64 n) 0 k hk
  try simp only [nmE] at cs cu
  simp -dsimp -implicitDefEqProofs (disch := omega) [go_sem, -List.getD_eq_getElem?_getD, ite_yes]
  refine AIf.of (fun h => ?_) (fun h => ?_)
  · simp -dsimp -implicitDefEqProofs (disch := omega) [go_sem, -List.getD_eq_getElem?_getD, ite_yes]
    have : l ≠ m := by rintro rfl; simp at h
    exact fin_flat0 rfl (by simp [this])
  have hlm : l.length = m.length := by simp at h; omega
  simp -dsimp -implicitDefEqProofs (disch := omega) [go_sem, -List.getD_eq_getElem?_getD, ite_yes]
  refine ALoop.intro (ι := Nat) (fun k => k ≤ l.length ∧ ∀ i, i < k → l.getD i 0 = m.getD i 0) (fun k => [(0, .slice (some ⟨t, 0, none⟩) l.length c), (1, .slice (some ⟨u, 0, none⟩) m.length d), (5, .int .i64 k)]) (fun _ => H) (fun k => l.length - k) 0 ⟨by omega, fun i hi => by omega⟩ ?_ ?_
  · exact weakS_same (by simp -dsimp -implicitDefEqProofs (disch := omega) [go_sem, -List.getD_eq_getElem?_getD, ite_yes, ht, hu])
  · rintro k ⟨hk, hg⟩
    by_cases hlt : k < l.length
    · have hlt' : k < m.length := by omega
      simp -dsimp -implicitDefEqProofs (disch := omega) [go_sem, -List.getD_eq_getElem?_getD, ite_yes, hlt]
      refine ADraw.quiet (by kernel_rfl) (by kernel_rfl) (by kernel_rfl) ?_
      simp -dsimp -implicitDefEqProofs (disch := omega) [go_sem, -List.getD_eq_getElem?_getD, ite_yes, hlt, hlt', cs, cu]
      skip
      refine AIf.of (fun h1 => ?_) (fun h1 => ?_)
      · simp -dsimp -implicitDefEqProofs (disch := omega) [go_sem, -List.getD_eq_getElem?_getD, ite_yes]
        have : l ≠ m := by rintro rfl; simp at h1
        exact fin_flat0 rfl (by simp [this])
      · simp -dsimp -implicitDefEqProofs (disch := omega) [go_sem, -List.getD_eq_getElem?_getD, ite_yes, hlt, hlt']
        refine LoopEnd.of (k + 1) ⟨by omega, fun i hi => ?_⟩ (by omega) (weakS_same (by simp -dsimp -implicitDefEqProofs (disch := omega) [go_sem, -List.getD_eq_getElem?_getD, ite_yes, ht, hu]))
        rcases Nat.lt_or_ge i k with h' | h'
        · exact hg i h'
        · obtain rfl : i = k := by omega
          simpa using h1
    · simp -dsimp -implicitDefEqProofs (disch := omega) [go_sem, -List.getD_eq_getElem?_getD, ite_yes, hlt]
      obtain rfl : k = l.length := by omega
      have : l = m := by
        apply List.ext_getElem hlm
        intro i h1 h2
        have := hg i h1
        simpa [List.getD, h1, h2] using this
      exact fin_flat0 rfl (by simp [this])
theorem eqNmS_nil (d u : Nat) (H : Heap) : AFunC Try.prog 8 [.slice none 0 0, .slice (some ⟨u, 0, none⟩) 0 d] H (.bool true) H := by
  refine AFunC.of_body Try.func8 (by kernel_rfl) rfl (by kernel_rfl) (by simp [Try.ntmps8]) ?_
  simp -dsimp -implicitDefEqProofs (disch := omega) [go_sem, -List.getD_eq_getElem?_getD, ite_yes]
  refine ALoop.intro (ι := Unit) (fun _ => True) (fun _ => [(0, .slice none 0 0), (5, .int .i64 0)]) (fun _ => H) (fun _ => 0) () trivial ?_ ?_
  · exact weakS_same (by simp -dsimp -implicitDefEqProofs (disch := omega) [go_sem, -List.getD_eq_getElem?_getD, ite_yes])
  · intro _ _
    simp -dsimp -implicitDefEqProofs (disch := omega) [go_sem, -List.getD_eq_getElem?_getD, ite_yes]
    exact fin_flat0 rfl rfl
theorem markNm_step {l : List Nm} {k0 : Int} {k : Nat} (hlt : k < l.length) : (((mixL l (marksNm k0 l.length) k).flatMap nmE).set (k) (.int .i64 (k0 + 1 * (k : Int) + 0))) = (mixL l (marksNm k0 l.length) (k + 1)).flatMap nmE := by
  have h1 := mixL_next (l := l) (m := marksNm k0 l.length) (marksNm_length _ _) 0 hlt
  have h2 := set_parts (f := nmE) (l := mixL l (marksNm k0 l.length) k) (s := 1) (fun _ => rfl) ((marksNm k0 l.length).getD k 0) (by rw [mixL_length (marksNm_length _ _) (by omega)]; exact hlt)
  rw [h1, marksNm_getD _ _ hlt] at h2
  rw [← h2]
  simp [aSetL, nmE, Nat.add_assoc]
theorem markNmS_A (l : List Nm) (hl : l.length ≤ 1048577) (c e : Nat) (k0 : Int) (h0 : 0 ≤ k0) (h1 : k0 ≤ 100000000) (H : Heap) (t : Nat) (hb : H.get t = some ⟨l.flatMap nmE, true, e, 1⟩) :
    AFunC Try.prog 11 [.slice (some ⟨t, 0, none⟩) l.length c, .int .i64 k0] H (.int .i64 (k0 + 1 * l.length)) (H.set t (some ⟨(marksNm k0 l.length).flatMap nmE, true, e, 1⟩)) := by
  refine AFunC.of_body Try.func11 (by kernel_rfl) rfl (by kernel_rfl) (by simp [Try.ntmps11]) ?_
  have ht := Heap.get_lt hb
  simp -dsimp -implicitDefEqProofs (disch := omega) [go_sem, -List.getD_eq_getElem?_getD, ite_yes]
  refine ALoop.intro (ι := Nat) (fun k => k ≤ l.length) (fun k => [(0, .slice (some ⟨t, 0, none⟩) l.length c), (1, .int .i64 (k0 + 1 * (k : Int))), (5, .int .i64 k)]) (fun k => H.set t (some ⟨(mixL l (marksNm k0 l.length) k).flatMap nmE, true, e, 1⟩)) (fun k => l.length - k) 0 (by omega) ?_ ?_
  · exact weakS_set ht (nmE_flat _) rfl (by rw [mixL_zero]; exact (Heap.set_self hb).symm) (by simp -dsimp -implicitDefEqProofs (disch := omega) [go_sem, -List.getD_eq_getElem?_getD, ite_yes, ht])
  · intro k hk
    have gs := fun x => Heap.get_set_self (H := H) ht (x := x)
    have bs := fun x => (by unfold blkSz; rw [gs x]; cases x <;> rfl : blkSz (H.set t x) t = x.map (·.sz))
    have hml := mixL_length (l := l) (m := marksNm k0 l.length) (marksNm_length _ _) hk
    have hfl : ((mixL l (marksNm k0 l.length) k).flatMap nmE).length = l.length * 1 := by rw [nmE_length, hml]
    by_cases hlt : k < l.length
    · have st := markNm_step (k0 := k0) hlt
      simp -dsimp -implicitDefEqProofs (disch := omega) [go_sem, -List.getD_eq_getElem?_getD, ite_yes, hlt, ht, gs, bs, hfl, List.set_set, List.length_set]
      refine LoopEnd.of (k + 1) (by omega) (by omega) (weakS_set ht (nmE_flat (mixL l (marksNm k0 l.length) (k + 1))) rfl (by rw [← st]; simp [Int.add_assoc]) (by simp -dsimp -implicitDefEqProofs (disch := omega) [go_sem, -List.getD_eq_getElem?_getD, ite_yes, ht] <;> omega))
    · simp -dsimp -implicitDefEqProofs (disch := omega) [go_sem, -List.getD_eq_getElem?_getD, ite_yes, hlt]
      obtain rfl : k = l.length := by omega
      exact fin_set ht (nmE_flat (marksNm k0 l.length)) rfl (by rw [mixL_all (marksNm_length _ _)]) rfl (by simp)
theorem markNmS_nil (k0 : Int) (H : Heap) : AFunC Try.prog 11 [.slice none 0 0, .int .i64 k0] H (.int .i64 k0) H := by
  refine AFunC.of_body Try.func11 (by kernel_rfl) rfl (by kernel_rfl) (by simp [Try.ntmps11]) ?_
  simp -dsimp -implicitDefEqProofs (disch := omega) [go_sem, -List.getD_eq_getElem?_getD, ite_yes]
  refine ALoop.intro (ι := Unit) (fun _ => True) (fun _ => [(0, .slice none 0 0), (1, .int .i64 k0), (5, .int .i64 0)]) (fun _ => H) (fun _ => 0) () trivial ?_ ?_
  · exact weakS_same (by simp -dsimp -implicitDefEqProofs (disch := omega) [go_sem, -List.getD_eq_getElem?_getD, ite_yes])
  · intro _ _
    simp -dsimp -implicitDefEqProofs (disch := omega) [go_sem, -List.getD_eq_getElem?_getD, ite_yes]
    exact fin_flat0 rfl rfl
theorem heldNmS_A (n : Nat) (hl : n ≤ 1048577) (c : Nat) (k0 : Int) (h0 : 0 ≤ k0) (h1 : k0 ≤ 100000000) (H : Heap) (t : Nat) (hS : Sl nmE H t (marksNm k0 n)) :
    AFunC Try.prog 12 [.slice (some ⟨t, 0, none⟩) n c, .int .i64 k0] H (.int .i64 (k0 + 1 * n)) H := by
  refine AFunC.of_body Try.func12 (by kernel_rfl) rfl (by kernel_rfl) (by simp [Try.ntmps12]) ?_
  have ht := hS.lt
  have cs0 := fun k hk => hS.one (g := fun n => Value.int .i64 n) 0 k hk
  simp only [marksNm_length, Nat.add_zero] at cs0
  have gd := fun k (h : k < n) => marksNm_getD k0 n h
  simp -dsimp -implicitDefEqProofs (disch := omega) [go_sem, -List.getD_eq_getElem?_getD, ite_yes]
  refine ALoop.intro (ι := Nat) (fun k => k ≤ n) (fun k => [(0, .slice (some ⟨t, 0, none⟩) n c), (1, .int .i64 (k0 + 1 * (k : Int))), (5, .int .i64 k)]) (fun _ => H) (fun k => n - k) 0 (by omega) ?_ ?_
  · exact weakS_same (by simp -dsimp -implicitDefEqProofs (disch := omega) [go_sem, -List.getD_eq_getElem?_getD, ite_yes, ht])
  · intro k hk
    by_cases hlt : k < n
    · simp -dsimp -implicitDefEqProofs (disch := omega) [go_sem, -List.getD_eq_getElem?_getD, ite_yes, hlt, ht, cs0, gd, nmE, Int.add_assoc, List.drop_succ_cons, List.drop_zero, List.take_succ_cons, List.take_zero]
      refine LoopEnd.of (k + 1) (by omega) (by omega) (weakS_same (by simp -dsimp -implicitDefEqProofs (disch := omega) [go_sem, -List.getD_eq_getElem?_getD, ite_yes, ht] <;> omega))
    · simp -dsimp -implicitDefEqProofs (disch := omega) [go_sem, -List.getD_eq_getElem?_getD, ite_yes, hlt]
      obtain rfl : k = n := by omega
      exact fin_flat0 rfl rfl
theorem heldNmS_nil (k0 : Int) (H : Heap) : AFunC Try.prog 12 [.slice none 0 0, .int .i64 k0] H (.int .i64 k0) H := by
  refine AFunC.of_body Try.func12 (by kernel_rfl) rfl (by kernel_rfl) (by simp [Try.ntmps12]) ?_
  simp -dsimp -implicitDefEqProofs (disch := omega) [go_sem, -List.getD_eq_getElem?_getD, ite_yes]
  refine ALoop.intro (ι := Unit) (fun _ => True) (fun _ => [(0, .slice none 0 0), (1, .int .i64 k0), (5, .int .i64 0)]) (fun _ => H) (fun _ => 0) () trivial ?_ ?_
  · exact weakS_same (by simp -dsimp -implicitDefEqProofs (disch := omega) [go_sem, -List.getD_eq_getElem?_getD, ite_yes])
  · intro _ _
    simp -dsimp -implicitDefEqProofs (disch := omega) [go_sem, -List.getD_eq_getElem?_getD, ite_yes]
    exact fin_flat0 rfl rfl
end Go.Proofs.Ytdbneadblnejgaa
/- Numbers in ascending order: where one belongs, and the list with it; in plain Lean. -/
namespace Go.Proofs.Ytdbneadblnejgaa
open Go.Am
set_option linter.unusedVariables false
set_option linter.unusedSimpArgs false

def place : List Int → Int → Nat
  | [], _ => 0
  | a :: l, n => if a < n then place l n + 1 else 0
theorem place_le : ∀ (l : List Int) (n : Int), place l n ≤ l.length
  | [], n => Nat.le_refl _
  | a :: l, n => by
    have := place_le l n
    simp only [place, List.length_cons]
    split <;> omega
theorem place_lt : ∀ (l : List Int) (n : Int) (i : Nat), i < place l n → l.getD i 0 < n
  | [], n, i, h => absurd h (Nat.not_lt_zero _)
  | a :: l, n, i, h => by
    simp only [place] at h
    split at h
    · rename_i ha
      cases i with
      | zero => exact ha
      | succ i => exact place_lt l n i (by omega)
    · exact absurd h (Nat.not_lt_zero _)
theorem place_at : ∀ (l : List Int) (n : Int), place l n < l.length → n ≤ l.getD (place l n) 0
  | [], n, h => absurd h (Nat.not_lt_zero _)
  | a :: l, n, h => by
    simp only [place] at h ⊢
    split
    · rename_i ha
      rw [if_pos ha] at h
      exact place_at l n (by simpa using h)
    · rename_i ha
      simp only [List.getD_cons_zero]; omega
theorem place_uniq {l : List Int} {n : Int} {k : Nat} (hk : k ≤ l.length) (h1 : ∀ i, i < k → l.getD i 0 < n) (h2 : k < l.length → n ≤ l.getD k 0) : k = place l n := by
  rcases Nat.lt_trichotomy k (place l n) with h | h | h
  · have := place_lt l n k h
    have := place_le l n
    have := h2 (by omega)
    omega
  · exact h
  · have := h1 (place l n) h
    have := place_at l n (by omega)
    omega
def Up (l : List Int) : Prop := l.Pairwise (· < ·)
theorem up_nil : Up [] := List.Pairwise.nil
theorem up_one (n : Int) : Up [n] := List.pairwise_singleton _ _
def putL (l : List Int) (n : Int) : List Int := l.take (place l n) ++ n :: l.drop (place l n)
theorem mem_putL {l : List Int} {n m : Int} : m ∈ putL l n ↔ m = n ∨ m ∈ l := by
  have : m ∈ l ↔ m ∈ l.take (place l n) ∨ m ∈ l.drop (place l n) := by
    rw [← List.mem_append, List.take_append_drop]
  rw [this]
  simp only [putL, List.mem_append, List.mem_cons]
  constructor
  · rintro (h | h | h)
    · exact .inr (.inl h)
    · exact .inl h
    · exact .inr (.inr h)
  · rintro (h | h | h)
    · exact .inr (.inl h)
    · exact .inl h
    · exact .inr (.inr h)
theorem putL_length (l : List Int) (n : Int) : (putL l n).length = l.length + 1 := by
  have := place_le l n
  simp only [putL, List.length_append, List.length_take, List.length_cons, List.length_drop]
  omega
theorem Up.mem_iff {n : Int} : ∀ {l : List Int}, Up l → (n ∈ l ↔ place l n < l.length ∧ l.getD (place l n) 0 = n)
  | [], h => by simp [place]
  | a :: l, h => by
    have h' := List.pairwise_cons.1 h
    have ih := Up.mem_iff (n := n) h'.2
    simp only [List.mem_cons, place, List.length_cons]
    split
    · rename_i ha
      rw [List.getD_cons_succ, ih]
      constructor
      · rintro (h | h)
        · omega
        · exact ⟨by omega, h.2⟩
      · rintro ⟨h1, h2⟩
        exact .inr ⟨by omega, h2⟩
    · rename_i ha
      rw [List.getD_cons_zero]
      constructor
      · rintro (h | h)
        · exact ⟨by omega, h.symm⟩
        · have := h'.1 n h; omega
      · rintro ⟨_, h⟩
        exact .inl h.symm
theorem putL_cons_lt {a n : Int} (h : a < n) (l : List Int) : putL (a :: l) n = a :: putL l n := by
  simp only [putL, place, if_pos h, List.take_succ_cons, List.drop_succ_cons, List.cons_append]
theorem putL_cons_ge {a n : Int} (h : ¬ a < n) (l : List Int) : putL (a :: l) n = n :: a :: l := by
  simp only [putL, place, if_neg h, List.take_zero, List.drop_zero, List.nil_append]
theorem Up.put {n : Int} : ∀ {l : List Int}, Up l → n ∉ l → Up (putL l n)
  | [], h, hn => by simp [putL, place, Up]
  | a :: l, h, hn => by
    have h' := List.pairwise_cons.1 h
    by_cases ha : a < n
    · rw [putL_cons_lt ha]
      refine List.pairwise_cons.2 ⟨fun m hm => ?_, Up.put h'.2 (fun h => hn (List.mem_cons_of_mem _ h))⟩
      rcases mem_putL.1 hm with rfl | hm
      · exact ha
      · exact h'.1 m hm
    · rw [putL_cons_ge ha]
      have hna : n ≠ a := fun e => hn (by simp [e])
      refine List.pairwise_cons.2 ⟨fun m hm => ?_, h⟩
      rcases List.mem_cons.1 hm with rfl | hm
      · omega
      · have := h'.1 m hm; omega
/-- whether a list has a number -/
def hasI (l : List Int) (n : Int) : Bool := decide (n ∈ l)
theorem hasI_put (l : List Int) (n m : Int) : hasI (putL l n) m = (decide (m = n) || hasI l m) := by
  simp [hasI, mem_putL]
theorem hasI_no {l : List Int} {n : Int} (h : ∀ i, i < l.length → l.getD i 0 ≠ n) : hasI l n = false := by
  refine decide_eq_false fun hm => ?_
  obtain ⟨i, hi, e⟩ := List.mem_iff_getElem.1 hm
  exact h i hi (by simp [List.getD_eq_getElem?_getD, hi, e])
theorem hasI_yes {l : List Int} {n : Int} {i : Nat} (hi : i < l.length) (h : l.getD i 0 = n) : hasI l n = true := by
  refine decide_eq_true ?_
  rw [← h, List.getD_eq_getElem?_getD, List.getElem?_eq_getElem hi]
  exact List.getElem_mem hi
end Go.Proofs.Ytdbneadblnejgaa
/- The reference's lists of numbers: whether one is in, and the list with it. -/
namespace Go.Proofs.Ytdbneadblnejgaa
open Go.Am
set_option linter.unusedVariables false
set_option linter.unusedSimpArgs false
set_option maxRecDepth 100000
set_option maxHeartbeats 2000000

def shutAt (id nd : Int) (v : Vl) : Bool := decide (v.2.1 = id) && (decide (v.2.2.1 = nd) && v.2.2.2)
end Go.Proofs.Ytdbneadblnejgaa
/- What is reached in a network: the reference's side. -/
namespace Go.Proofs.Ytdbneadblnejgaa
open Go.Am
set_option linter.unusedVariables false
set_option linter.unusedSimpArgs false
set_option maxRecDepth 100000
set_option maxHeartbeats 2000000

/-- whether water goes through the end of a pipe -/
def openB (l : List Vl) (p : Pp) (nd : Int) : Bool := !decide (0 ≤ ixOf (shutAt p.1 nd) l)
structure Ix where
  W : List Bool
  ag : Bool
  N : List Int
  P : List Int
  tn : Nat
  cn : Nat
  tm : Nat
  cm : Nat
  K : Heap
/-- what two lists say of the elements -/
structure SpL (W : List Bool) (N P : List Int) (tn tm : Nat) (K : Heap) : Prop where
  w19 : W.length = 19
  sN : Sl nmE K tn N
  zN : blkSz K tn = some 1
  sP : Sl nmE K tm P
  zP : blkSz K tm = some 1
  upN : Up N
  upP : Up P
  memN : ∀ a : Nat, a < 9 → hasI N (a : Int) = W.getD a false
  memP : ∀ j : Nat, j < 10 → hasI P (j : Int) = W.getD (9 + j) false
  len : N.length + P.length ≤ cnt W
def Ix.st (i : Ix) : St := (i.W, i.ag)
theorem SpL.app {W : List Bool} {N P : List Int} {tn tm : Nat} {K L : Heap} (h : SpL W N P tn tm K) : SpL W N P tn tm (K ++ L) :=
  ⟨h.w19, h.sN.app, by rw [blkSz_old h.sN.lt]; exact h.zN, h.sP.app, by rw [blkSz_old h.sP.lt]; exact h.zP, h.upN, h.upP, h.memN, h.memP, h.len⟩
theorem SpL.bound {W : List Bool} {N P : List Int} {tn tm : Nat} {K : Heap} (h : SpL W N P tn tm K) : N.length + P.length ≤ 19 := by
  have := h.len
  have := cnt_le W
  have := h.w19
  omega
theorem getD_set2 {W : List Bool} {a b j : Nat} (ha : a < W.length) (hb : b < W.length) : ((W.set a true).set b true).getD j false = (decide (j = a) || (decide (j = b) || W.getD j false)) := by
  by_cases h1 : j = b
  · subst h1
    rw [getD_set_eq (by simpa using hb)]; simp
  · rw [getD_set_ne (fun h => h1 h.symm), decide_eq_false h1]
    by_cases h2 : j = a
    · subst h2; rw [getD_set_eq ha]; simp
    · rw [getD_set_ne (fun h => h2 h.symm), decide_eq_false h2]; simp
theorem cnt_set2 {W : List Bool} {a b : Nat} (ha : a < W.length) (hb : b < W.length) (hab : a ≠ b) (h : W.getD a false ≠ W.getD b false) : cnt ((W.set a true).set b true) = cnt W + 1 := by
  have c1 := cnt_set W a ha
  have c2 := cnt_set (W.set a true) b (by simpa using hb)
  rw [getD_set_ne hab] at c2
  cases h4 : W.getD a false <;> cases h5 : W.getD b false <;> rw [h4] at c1 h <;> rw [h5] at c2 h <;> simp at c1 c2 h <;> omega
/-- the node is put into its list -/
theorem SpL.putN {W : List Bool} {N P : List Int} {tn tm : Nat} {K : Heap} (h : SpL W N P tn tm K) {a k : Nat} (ha : a < 9) (hk : k < 10) (hn : hasI N (a : Int) = false) (hp : hasI P (k : Int) = true) :
    SpL ((W.set a true).set (9 + k) true) (putL N a) P K.length tm (K ++ [some ⟨(putL N a).flatMap nmE, true, 3, 1⟩]) := by
  have e1 := h.memN a ha
  have e2 := h.memP k hk
  rw [hn] at e1; rw [hp] at e2
  have hw := h.w19
  have hap := h.app (L := [some ⟨(putL N a).flatMap nmE, true, 3, 1⟩])
  refine ⟨by simp [hw], Sl.of rfl, by simp [blkSz_len, blkSz_cons], hap.sP, hap.zP, h.upN.put (of_decide_eq_false hn), h.upP, fun j hj => ?_, fun j hj => ?_, ?_⟩
  · rw [hasI_put, h.memN j hj, getD_set2 (by omega) (by omega)]
    rw [show decide ((j : Int) = (a : Int)) = decide (j = a) by rw [decide_eq_decide]; omega, decide_eq_false (show ¬ j = 9 + k by omega), Bool.false_or]
  · rw [h.memP j hj, getD_set2 (by omega) (by omega), decide_eq_false (show ¬ 9 + j = a by omega), Bool.false_or]
    by_cases hjk : j = k
    · subst hjk; rw [← e2]; simp
    · rw [decide_eq_false (show ¬ 9 + j = 9 + k by omega), Bool.false_or]
  · rw [putL_length, cnt_set2 (by omega) (by omega) (by omega) (by rw [← e1, ← e2]; simp)]
    have := h.len
    omega
/-- the pipe is put into its list -/
theorem SpL.putP {W : List Bool} {N P : List Int} {tn tm : Nat} {K : Heap} (h : SpL W N P tn tm K) {a k : Nat} (ha : a < 9) (hk : k < 10) (hn : hasI N (a : Int) = true) (hp : hasI P (k : Int) = false) :
    SpL ((W.set a true).set (9 + k) true) N (putL P k) tn K.length (K ++ [some ⟨(putL P k).flatMap nmE, true, 3, 1⟩]) := by
  have e1 := h.memN a ha
  have e2 := h.memP k hk
  rw [hn] at e1; rw [hp] at e2
  have hw := h.w19
  have hap := h.app (L := [some ⟨(putL P k).flatMap nmE, true, 3, 1⟩])
  refine ⟨by simp [hw], hap.sN, hap.zN, Sl.of rfl, by simp [blkSz_len, blkSz_cons], h.upN, h.upP.put (of_decide_eq_false hp), fun j hj => ?_, fun j hj => ?_, ?_⟩
  · rw [h.memN j hj, getD_set2 (by omega) (by omega), decide_eq_false (show ¬ j = 9 + k by omega), Bool.false_or]
    by_cases hja : j = a
    · subst hja; rw [← e1]; simp
    · rw [decide_eq_false hja, Bool.false_or]
  · rw [hasI_put, h.memP j hj, getD_set2 (by omega) (by omega), decide_eq_false (show ¬ 9 + j = a by omega), Bool.false_or]
    rw [show decide ((j : Int) = (k : Int)) = decide (9 + j = 9 + k) by rw [decide_eq_decide]; omega]
  · rw [putL_length, cnt_set2 (by omega) (by omega) (by omega) (by rw [← e1, ← e2]; simp)]
    have := h.len
    omega
theorem rep_getD (n i : Nat) : (List.replicate n false).getD i false = false := by
  rw [List.getD_eq_getElem?_getD, List.getElem?_replicate]
  split <;> rfl
theorem rep_cnt : ∀ n : Nat, cnt (List.replicate n false) = 0
  | 0 => rfl
  | n + 1 => by rw [List.replicate_succ, cnt, rep_cnt n]; rfl
theorem SpL.start {a : Nat} (ha : a < 9) (H : Heap) : SpL (start (a : Int)) [(a : Int)] [] H.length (H.length + 1) (H ++ [some ⟨[.int .i64 a], true, 3, 1⟩, some ⟨[], true, 3, 1⟩]) := by
  have hs : Go.Proofs.Ytdbneadblnejgaa.start (a : Int) = (List.replicate 19 false).set a true := by rw [Go.Proofs.Ytdbneadblnejgaa.start, Int.toNat_natCast]
  have hl : (List.replicate 19 false).length = 19 := List.length_replicate
  refine ⟨start_length _, Sl.of rfl, by simp [blkSz_len, blkSz_cons], Sl.of1 rfl, by simp [blkSz_len_add, blkSz_cons], up_one _, up_nil, fun j hj => ?_, fun j hj => ?_, ?_⟩
  · rw [hs]
    by_cases h : j = a
    · subst h; rw [getD_set_eq (by omega)]; exact decide_eq_true (by simp)
    · rw [getD_set_ne (fun e => h e.symm), rep_getD]
      exact decide_eq_false (by simp; omega)
  · rw [hs, getD_set_ne (by omega), rep_getD]
    exact decide_eq_false (by simp)
  · have c1 := cnt_set (List.replicate 19 false) a (by omega)
    rw [rep_getD, rep_cnt] at c1
    rw [hs]
    simp only [List.length_cons, List.length_nil]
    simp only [Bool.false_eq_true, if_false] at c1
    omega
/-- what the reference's spreading hands out -/
def SprOut (b0 : Nat) (H : Heap) (R : List Bool) (v : Value) (G : Heap) : Prop :=
  ∃ N P tn cn tm cm, v = .tuple #[.slice (some ⟨tn, 0, none⟩) N.length cn, .slice (some ⟨tm, 0, none⟩) P.length cm] ∧ KExt b0 H G ∧ SpL R N P tn tm G
end Go.Proofs.Ytdbneadblnejgaa
/- What is reached in a network: the walk through the reference's spreading. -/
namespace Go.Proofs.Ytdbneadblnejgaa
open Go.Am
set_option linter.unusedVariables false
set_option linter.unusedSimpArgs false
set_option maxRecDepth 100000
set_option maxHeartbeats 4000000

theorem wm_net {n : Int} {t len c h : Nat} (ht : t < h) (σ : Sig) (m : Nat) (hs : ∀ t, t < h → σ t = some t) (hm : h ≤ m) : L2 (WM σ m) [.int .i64 n, .slice (some ⟨t, 0, none⟩) len c] [.int .i64 n, .slice (some ⟨t, 0, none⟩) len c] :=
  have h1 : t < m := by omega
  ⟨rfl, ⟨h1, .inl ⟨t, c, hs t ht, rfl⟩⟩, trivial⟩
/-- the state of the spreading -/
structure KI (b0 tp len cp : Nat) (H : Heap) (i : Ix) : Prop where
  kx : KExt b0 H i.K
  klt : H.length < i.K.length
  net : aCells i.K ⟨H.length, 1, none⟩ 1 = some [.slice (some ⟨tp, 0, none⟩) len cp]
  sp : SpL i.W i.N i.P i.tn i.tm i.K
theorem KI.app {b0 tp len cp : Nat} {H : Heap} {i : Ix} {b : Blk} (h : KI b0 tp len cp H i) (hb : b.xs.all flat = true) : KI b0 tp len cp H { i with K := i.K ++ [some b] } :=
  ⟨h.kx.snoc fun _ _ _ _ => wm_flat hb, by have := h.klt; simp; omega, by rw [aCells_old h.klt]; exact h.net, h.sp.app⟩
/-- a pipe in its block -/
structure PipAt (p1 a b : Int) (tq : Nat) (K : Heap) : Prop where
  lt : tq < K.length
  c0 : aCells K ⟨tq, 0, none⟩ 1 = some [.int .i64 p1]
  c1 : aCells K ⟨tq, 1, none⟩ 1 = some [.int .i64 a]
  c2 : aCells K ⟨tq, 2, none⟩ 1 = some [.int .i64 b]
theorem PipAt.app {p1 a b : Int} {tq : Nat} {K L : Heap} (h : PipAt p1 a b tq K) : PipAt p1 a b tq (K ++ L) :=
  ⟨by have := h.lt; simp; omega, by rw [aCells_old h.lt]; exact h.c0, by rw [aCells_old h.lt]; exact h.c1, by rw [aCells_old h.lt]; exact h.c2⟩
theorem stepAt_no {o : Bool} {s : St} {a b : Nat} (h : o = false ∨ s.1.getD a false = s.1.getD b false) : stepAt o s a b = s := by
  unfold stepAt
  rcases h with h | h
  · rw [h, Bool.and_false]; rfl
  · rw [h]; simp
theorem stepAt_yes {o : Bool} {s : St} {a b : Nat} (h : o = true) (h2 : s.1.getD a false ≠ s.1.getD b false) : stepAt o s a b = ((s.1.set a true).set b true, true) := by
  unfold stepAt
  rw [h, Bool.and_true, if_pos (by simpa using h2)]
end Go.Proofs.Ytdbneadblnejgaa
/- What is reached in a network: the program's side. -/
namespace Go.Proofs.Ytdbneadblnejgaa
open Go.Am
set_option linter.unusedVariables false
set_option linter.unusedSimpArgs false
set_option maxRecDepth 100000
set_option maxHeartbeats 2000000

/-- the elements, none of them reached -/
def zerosB : List Value := List.replicate 19 (.bool false)
theorem zerosB_eq : ([Value.bool false, Value.bool false, Value.bool false, Value.bool false, Value.bool false, Value.bool false, Value.bool false, Value.bool false, Value.bool false, Value.bool false, Value.bool false, Value.bool false, Value.bool false, Value.bool false, Value.bool false, Value.bool false, Value.bool false, Value.bool false, Value.bool false] : List Value) = zerosB := rfl
theorem zerosB_length : zerosB.length = 19 := rfl
theorem zerosB_start (s : Nat) : zerosB.set s (.bool true) = (start (s : Int)).map .bool := by
  rw [start, Int.toNat_natCast, List.map_set, List.map_replicate]; rfl
theorem bl_cell (s : List Bool) {q : Nat} (hq : q < s.length) : List.take 1 (List.drop q (s.map Value.bool)) = [.bool (s.getD q false)] := by
  rw [List.getD_eq_getElem?_getD, List.getElem?_eq_getElem hq]
  rw [List.drop_eq_getElem_cons (by simpa using hq)]
  simp
theorem bl_set (s : List Bool) (x : Bool) (q : Nat) : (s.map Value.bool).set q (.bool x) = (s.set q x).map Value.bool := by rw [List.map_set]
theorem bl_flat (s : List Bool) : (s.map Value.bool).all flat = true := by simp [flat]
theorem inP_length {n : Int} {ps : List Pp} (h : NetAt n ps) (op : Pp → Int → Bool) {W : List Bool} (hW : W.length = 19) {k : Nat} (hk : k < ps.length) (m : Nat) : (inP op (psTo op ps W k) k (ps.getD k pp0) m).1.length = 19 :=
  (inP_inv h op hW (psTo_inv h op hW k (by omega)) hk m).1.trans hW
end Go.Proofs.Ytdbneadblnejgaa
/- Dry nodes and pipes: both sides. -/
namespace Go.Proofs.Ytdbneadblnejgaa
open Go.Am
set_option linter.unusedVariables false
set_option linter.unusedSimpArgs false
set_option maxRecDepth 100000
set_option maxHeartbeats 4000000

/-- the dry nodes up to k, and the dry pipes below k -/
def dryN (R : List Bool) : Nat → List Int
  | 0 => []
  | k + 1 => if R.getD (k + 1) false then dryN R k else dryN R k ++ [((k + 1 : Nat) : Int)]
def dryP (R : List Bool) : Nat → List Int
  | 0 => []
  | k + 1 => if R.getD (9 + k) false then dryP R k else dryP R k ++ [(k : Int)]
theorem dryN_length (R : List Bool) : ∀ k, (dryN R k).length ≤ k
  | 0 => Nat.le_refl _
  | k + 1 => by have := dryN_length R k; rw [dryN]; split <;> simp <;> omega
theorem dryP_length (R : List Bool) : ∀ k, (dryP R k).length ≤ k
  | 0 => Nat.le_refl _
  | k + 1 => by have := dryP_length R k; rw [dryP]; split <;> simp <;> omega
/-- what water reaches -/
def wetR (ps : List Pp) (l : List Vl) (src : Int) : List Bool := reach (openB l) ps src
theorem wetR_length {n : Int} {ps : List Pp} (h : NetAt n ps) (l : List Vl) (src : Int) : (wetR ps l src).length = 19 := reach_length h _ _
end Go.Proofs.Ytdbneadblnejgaa
/- What water reaches: the program's side; and that both sides say the same. -/
namespace Go.Proofs.Ytdbneadblnejgaa
open Go.Am
set_option linter.unusedVariables false
set_option linter.unusedSimpArgs false
set_option maxRecDepth 100000
set_option maxHeartbeats 4000000

def atEnd (id nd : Int) (v : Vl) : Bool := decide (v.2.1 = id) && decide (v.2.2.1 = nd)
/-- whether an end of a pipe is open, as the program tells it: by the first valve there -/
def openI (l : List Vl) (p : Pp) (nd : Int) : Bool := decide (ixOf (atEnd p.1 nd) l < 0) || !(l.getD (ixOf (atEnd p.1 nd) l).toNat vl0).2.2.2
theorem ix_none {α : Type} (d : α) (p : α → Bool) (l : List α) (h : ∀ i, i < l.length → p (l.getD i d) = false) : ixOf p l = -1 := found_uniq (found_ix d p l) (.no h)
theorem ix_some {α : Type} (d : α) (p : α → Bool) (l : List α) {i : Nat} (hi : i < l.length) (h : p (l.getD i d) = true) : 0 ≤ ixOf p l := by
  rcases ix_cases d p l with ⟨_, h2⟩ | ⟨q, h2, _⟩
  · have := h2 i hi; rw [h] at this; cases this
  · omega
theorem goodV_twin {n : Int} {ps : List Pp} {l : List Vl} (h : goodV n ps l = true) {i : Nat} (hi : i < l.length) : twinV l i = false := by
  unfold goodV at h
  simp only [Bool.and_eq_true, decide_eq_true_eq] at h
  have := h.2.2 i hi
  unfold oneV at this
  simp only [Bool.and_eq_true, Bool.not_eq_true'] at this
  exact this.2.2.2
theorem goodV_net {n : Int} {ps : List Pp} {l : List Vl} (h : goodV n ps l = true) : NetAt n ps ∧ l.length ≤ 10 := by
  unfold goodV at h
  simp only [Bool.and_eq_true, decide_eq_true_eq] at h
  exact ⟨NetAt.of h.1, h.2.1⟩
theorem openI_openB {n : Int} {ps : List Pp} {l : List Vl} (h : goodV n ps l = true) (p : Pp) (nd : Int) : openI l p nd = openB l p nd := by
  unfold openI openB
  rcases ix_cases vl0 (atEnd p.1 nd) l with ⟨h1, h2⟩ | ⟨q, h1, h2, h3, h4⟩
  · have := ix_none vl0 (shutAt p.1 nd) l fun i hi => by
      have := h2 i hi
      unfold atEnd at this
      unfold shutAt
      rw [← Bool.and_assoc, this, Bool.false_and]
    rw [h1, this]; rfl
  · rw [h1, decide_eq_false (by omega), Bool.false_or, Int.toNat_natCast]
    cases hs : (l.getD q vl0).2.2.2
    · have := ix_none vl0 (shutAt p.1 nd) l fun i hi => by
        have e : shutAt p.1 nd (l.getD i vl0) = (atEnd p.1 nd (l.getD i vl0) && (l.getD i vl0).2.2.2) := by unfold shutAt atEnd; rw [Bool.and_assoc]
        rw [e]
        rcases Nat.lt_trichotomy i q with hlt | rfl | hgt
        · rw [h4 i hlt, Bool.false_and]
        · rw [hs, Bool.and_false]
        · cases ha : atEnd p.1 nd (l.getD i vl0)
          · rfl
          · have ht := goodV_twin h hi
            have : twinV l i = true := twinV_yes hgt h2 (by
              unfold atEnd at ha h3
              simp only [Bool.and_eq_true, decide_eq_true_eq] at ha h3
              unfold sameV
              rw [ha.1, ha.2, h3.1, h3.2]; simp)
            rw [this] at ht; cases ht
      rw [this]; rfl
    · have := ix_some vl0 (shutAt p.1 nd) l h2 (by
        have e : shutAt p.1 nd (l.getD q vl0) = (atEnd p.1 nd (l.getD q vl0) && (l.getD q vl0).2.2.2) := by unfold shutAt atEnd; rw [Bool.and_assoc]
        rw [e, h3, hs]; rfl)
      rw [decide_eq_true this]
/-- what depends on where pipes and nodes of valves are holds of valves that differ in what is shut alone -/
theorem reach_openI {n : Int} {ps : List Pp} {l : List Vl} (h : goodV n ps l = true) (src : Int) : reach (openI l) ps src = wetR ps l src :=
  run_congr (fun i hi k => openI_openB h _ _) 20 _
theorem aCells_roH {H : Heap} {t o n : Nat} : aCells (roH H) ⟨t, o, none⟩ n = aCells H ⟨t, o, none⟩ n := by
  rw [aCells_eq, aCells_eq, roH_get]
  cases H.get t <;> rfl
/-- the Ids of the dry pipes below k -/
def dryI (R : List Bool) (ps : List Pp) : Nat → List Int
  | 0 => []
  | k + 1 => if R.getD (9 + k) false then dryI R ps k else dryI R ps k ++ [(ps.getD k pp0).1]
theorem dryI_length (R : List Bool) (ps : List Pp) : ∀ k, (dryI R ps k).length ≤ k
  | 0 => Nat.le_refl _
  | k + 1 => by have := dryI_length R ps k; rw [dryI]; split <;> simp <;> omega
def blE (b : Bool) : List Value := [.bool b]
theorem blE_map (R : List Bool) : R.map Value.bool = R.flatMap blE := by
  induction R with
  | nil => rfl
  | cons b R ih => simp only [List.map_cons, List.flatMap_cons, ih]; rfl
end Go.Proofs.Ytdbneadblnejgaa
/- Reopening: the shut valves, valves of which some are opened, and what is dry then. -/
namespace Go.Proofs.Ytdbneadblnejgaa
open Go.Am
set_option linter.unusedVariables false
set_option linter.unusedSimpArgs false
set_option maxRecDepth 100000
set_option maxHeartbeats 4000000

/-- numbers that stand in a block from some place on -/
structure IdS (H : Heap) (t o : Nat) (l : List Int) : Prop where
  lt : t < H.length
  cs : ∀ k, k < l.length → aCells H ⟨t, o + k, none⟩ 1 = some [.int .i64 (l.getD k 0)]
theorem IdS.of {H : Heap} {t : Nat} {l : List Int} (h : Sl nmE H t l) : IdS H t 0 l :=
  ⟨h.lt, fun k hk => by rw [Nat.zero_add]; exact h.one (g := fun n => Value.int .i64 n) 0 k hk⟩
theorem IdS.app {H L : Heap} {t o : Nat} {l : List Int} (h : IdS H t o l) : IdS (H ++ L) t o l :=
  ⟨by have := h.lt; simp; omega, fun k hk => by rw [aCells_old h.lt]; exact h.cs k hk⟩
theorem IdS.ro {H : Heap} {t o : Nat} {l : List Int} (h : IdS H t o l) : IdS (roH H) t o l :=
  ⟨by rw [roH_length]; exact h.lt, fun k hk => by rw [aCells_roH]; exact h.cs k hk⟩
/-- the Ids of the valves below k that are shut -/
def shutTo (l : List Vl) : Nat → List Int
  | 0 => []
  | k + 1 => if (l.getD k vl0).2.2.2 then shutTo l k ++ [(l.getD k vl0).1] else shutTo l k
def shutL (l : List Vl) : List Int := shutTo l l.length
theorem shutTo_length (l : List Vl) : ∀ k, (shutTo l k).length ≤ k
  | 0 => Nat.le_refl _
  | k + 1 => by have := shutTo_length l k; rw [shutTo]; split <;> simp <;> omega
theorem shutL_length (l : List Vl) : (shutL l).length ≤ l.length := shutTo_length l _
/-- a valve that is opened if its Id is among some -/
def opV (ids : List Int) (v : Vl) : Vl := (v.1, v.2.1, v.2.2.1, v.2.2.2 && !hasI ids v.1)
def opTo (l : List Vl) (ids : List Int) : Nat → List Vl
  | 0 => l
  | k + 1 => (opTo l ids k).set k (opV ids (l.getD k vl0))
def opL (l : List Vl) (ids : List Int) : List Vl := opTo l ids l.length
theorem opTo_length (l : List Vl) (ids : List Int) : ∀ k, (opTo l ids k).length = l.length
  | 0 => rfl
  | k + 1 => by rw [opTo, List.length_set, opTo_length l ids k]
theorem opL_length (l : List Vl) (ids : List Int) : (opL l ids).length = l.length := opTo_length l ids _
theorem getD_set_vl {l : List Vl} {i j : Nat} {x : Vl} (hi : i < l.length) : (l.set i x).getD j vl0 = if i = j then x else l.getD j vl0 := by
  simp only [List.getD_eq_getElem?_getD, List.getElem?_set]
  split
  · rename_i h; subst h; simp [hi]
  · rfl
theorem opTo_getD (l : List Vl) (ids : List Int) : ∀ (k : Nat), k ≤ l.length → ∀ i, (opTo l ids k).getD i vl0 = if i < k then opV ids (l.getD i vl0) else l.getD i vl0
  | 0, _, i => by simp [opTo]
  | k + 1, hk, i => by
    rw [opTo, getD_set_vl (by rw [opTo_length]; omega), opTo_getD l ids k (by omega) i]
    by_cases h1 : k = i
    · subst h1; rw [if_pos rfl, if_pos (by omega)]
    · rw [if_neg h1]
      by_cases h2 : i < k
      · rw [if_pos h2, if_pos (by omega)]
      · rw [if_neg h2, if_neg (by omega)]
theorem opL_getD (l : List Vl) (ids : List Int) {i : Nat} (hi : i < l.length) : (opL l ids).getD i vl0 = opV ids (l.getD i vl0) := by
  rw [opL, opTo_getD l ids _ (Nat.le_refl _), if_pos hi]
theorem opTo_next (l : List Vl) (ids : List Int) {k : Nat} (hk : k < l.length) : opTo l ids (k + 1) = (opTo l ids k).set k (opV ids ((opTo l ids k).getD k vl0)) := by
  rw [opTo, opTo_getD l ids k (by omega), if_neg (by omega)]
end Go.Proofs.Ytdbneadblnejgaa
/- Reopening: the reference's side; StillDry. -/
namespace Go.Proofs.Ytdbneadblnejgaa
open Go.Am
set_option linter.unusedVariables false
set_option linter.unusedSimpArgs false
set_option maxRecDepth 100000
set_option maxHeartbeats 4000000

theorem nm_cell1 (s : List Int) {q : Nat} (hq : q < s.length) : List.take 1 (List.drop q (s.flatMap nmE)) = [.int .i64 (s.getD q 0)] := by
  have := flatMap_cells nmE 1 (fun _ => rfl) 0 s q hq
  rwa [Nat.mul_one] at this
theorem ix_congr {α : Type} (d : α) {p p' : α → Bool} {l l' : List α} (hl : l.length = l'.length) (h : ∀ i, i < l.length → p (l.getD i d) = p' (l'.getD i d)) : ixOf p l = ixOf p' l' := by
  refine found_uniq (found_ix d p l) ?_
  rcases ix_cases d p' l' with ⟨h1, h2⟩ | ⟨q, h1, h2, h3, h4⟩
  · rw [h1]; exact .no fun i hi => by rw [h i hi]; exact h2 i (by omega)
  · rw [h1]; exact .yes q (by omega) (by rw [h q (by omega)]; exact h3) fun i hi => by rw [h i (by omega)]; exact h4 i hi
theorem oneV_opL (ps : List Pp) (l : List Vl) (ids : List Int) {i : Nat} (hi : i < l.length) : oneV ps (opL l ids) i = oneV ps l i := by
  have e : ∀ j, j < l.length → ((opL l ids).getD j vl0).1 = (l.getD j vl0).1 ∧ ((opL l ids).getD j vl0).2.1 = (l.getD j vl0).2.1 ∧ ((opL l ids).getD j vl0).2.2.1 = (l.getD j vl0).2.2.1 := fun j hj => by
    rw [opL_getD l ids hj]; exact ⟨rfl, rfl, rfl⟩
  have t : twinV (opL l ids) i = twinV l i := by
    unfold twinV
    rw [ix_congr vl0 (p' := sameV (l.getD i vl0)) (l' := l.take i) (by rw [List.length_take, List.length_take, opL_length]) (fun j hj => ?_)]
    rw [List.length_take, opL_length] at hj
    rw [getD_take' (by omega), getD_take' (by omega)]
    unfold sameV
    rw [(e j (by omega)).2.1, (e j (by omega)).2.2, (e i hi).2.1, (e i hi).2.2]
  unfold oneV
  rw [t, (e i hi).1, (e i hi).2.1, (e i hi).2.2]
  by_cases h0 : 0 < i
  · rw [(e (i - 1) (by omega)).1]
  · rw [decide_eq_false h0, Bool.false_and, Bool.false_and]
theorem goodV_opL {n : Int} {ps : List Pp} {l : List Vl} (h : goodV n ps l = true) (ids : List Int) : goodV n ps (opL l ids) = true := by
  unfold goodV at h ⊢
  simp only [Bool.and_eq_true, decide_eq_true_eq] at h ⊢
  rw [opL_length]
  exact ⟨h.1, h.2.1, fun i hi => by rw [oneV_opL ps l ids hi]; exact h.2.2 i hi⟩
/-- what is dry when some valves are opened -/
def dryO (n : Int) (ps : List Pp) (l : List Vl) (src : Int) (ids : List Int) : List Int := dryN (wetR ps (opL l ids) src) n.toNat
theorem dryO_length (n : Int) (ps : List Pp) (l : List Vl) (src : Int) (ids : List Int) : (dryO n ps l src ids).length ≤ n.toNat := dryN_length _ _
/-- what is asked of a network, valves and a source -/
def askR (n : Int) (ps : List Pp) (l : List Vl) (src : Int) : Bool := goodV n ps l && (inB src 1 n && decide ((shutL l).length ≤ 6))
theorem askR_at {n : Int} {ps : List Pp} {l : List Vl} {src : Int} (h : askR n ps l src = true) : goodV n ps l = true ∧ NetAt n ps ∧ l.length ≤ 10 ∧ (1 ≤ src ∧ src ≤ n) ∧ (shutL l).length ≤ 6 := by
  unfold askR at h
  simp only [Bool.and_eq_true, decide_eq_true_eq, inB] at h
  exact ⟨h.1, (goodV_net h.1).1, (goodV_net h.1).2, h.2.1, h.2.2⟩
end Go.Proofs.Ytdbneadblnejgaa
/- slices.Sort on at most twelve numbers. -/
namespace Go.Proofs.Ytdbneadblnejgaa
open Go.Am
set_option linter.unusedVariables false
set_option linter.unusedSimpArgs false
set_option maxRecDepth 100000
set_option maxHeartbeats 4000000

abbrev Srt (l : List Int) : Prop := l.Pairwise (· ≤ ·)
theorem srt_perm_eq : ∀ {a b : List Int}, a.Perm b → Srt a → Srt b → a = b
  | [], b, h, _, _ => (List.nil_perm.1 h).symm ▸ rfl
  | x :: a, [], h, _, _ => absurd (List.perm_nil.1 h) (by simp)
  | x :: a, y :: b, h, ha, hb => by
    have ha' := List.pairwise_cons.1 ha
    have hb' := List.pairwise_cons.1 hb
    have hxy : x = y := by
      have hx : x ∈ y :: b := h.mem_iff.1 (by simp)
      have hy : y ∈ x :: a := h.mem_iff.2 (by simp)
      rcases List.mem_cons.1 hx with e | hx
      · exact e
      · rcases List.mem_cons.1 hy with e | hy
        · exact e.symm
        · have := hb'.1 x hx
          have := ha'.1 y hy
          omega
    subst hxy
    rw [srt_perm_eq (List.Perm.cons_inv h) ha'.2 hb'.2]
/-- within the insertion: x stands behind A and before B -/
structure InS (l : List Int) (i : Nat) (A : List Int) (x : Int) (B R : List Int) : Prop where
  perm : (A ++ x :: (B ++ R)).Perm l
  srt : Srt (A ++ B)
  lt : ∀ b ∈ B, x < b
  len : A.length + B.length = i
theorem InS.swap {l : List Int} {i : Nat} {A : List Int} {y x : Int} {B R : List Int} (h : InS l i (A ++ [y]) x B R) (hxy : x < y) : InS l i A x (y :: B) R where
  perm := by
    refine List.Perm.trans ?_ h.perm
    rw [List.append_assoc]
    exact List.Perm.append_left A (List.Perm.swap y x (B ++ R))
  srt := by have := h.srt; rwa [List.append_assoc] at this
  lt := fun b hb => by
    rcases List.mem_cons.1 hb with rfl | hb
    · exact hxy
    · exact h.lt b hb
  len := by have := h.len; simp at this ⊢; omega
theorem InS.done {l : List Int} {i : Nat} {A : List Int} {x : Int} {B R : List Int} (h : InS l i A x B R) (hx : ∀ a ∈ A, a ≤ x) : Srt (A ++ x :: B) := by
  have h1 := List.pairwise_append.1 h.srt
  refine List.pairwise_append.2 ⟨h1.1, List.pairwise_cons.2 ⟨fun b hb => by have := h.lt b hb; omega, h1.2.1⟩, fun a ha b hb => ?_⟩
  rcases List.mem_cons.1 hb with rfl | hb
  · exact hx a ha
  · exact h1.2.2 a ha b hb
theorem nm_at (A T : List Int) (y : Int) : List.take 1 (List.drop A.length ((A ++ y :: T).flatMap nmE)) = [.int .i64 y] := by
  have := nm_cell1 (A ++ y :: T) (q := A.length) (by simp)
  simpa using this
theorem nm_put (A T : List Int) (y z : Int) : ((A ++ y :: T).flatMap nmE).set A.length (.int .i64 z) = (A ++ z :: T).flatMap nmE := by
  have := set_cell (f := nmE) (s := 1) (l := A ++ y :: T) (i := A.length) (fun _ => rfl) z 0 (by simp) (j := 0) (by omega) (v := .int .i64 z) rfl
  rw [Nat.mul_one, Nat.add_zero] at this
  rw [this]; simp
theorem isNaN_A (x : Int) (H : Heap) : AFunC Try.prog 32 [.int .i64 x] H (.bool false) H := by
  refine AFunC.of_body Try.func32 (by kernel_rfl) rfl (by kernel_rfl) (by simp [Try.ntmps32]) ?_
  simp -dsimp -implicitDefEqProofs (disch := omega) [go_sem, -List.getD_eq_getElem?_getD, ite_yes]
  exact fin_flat0 rfl rfl
end Go.Proofs.Ytdbneadblnejgaa
/- slices.Sort and slices.Equal on at most ten numbers. -/
namespace Go.Proofs.Ytdbneadblnejgaa
open Go.Am
set_option linter.unusedVariables false
set_option linter.unusedSimpArgs false
set_option maxRecDepth 100000
set_option maxHeartbeats 4000000

theorem wrap_u64 {x : Int} (h1 : 0 ≤ x) (h2 : x ≤ 1000) : IntKind.u64.wrap x = x := by
  simp [IntKind.wrap, IntKind.signed, IntKind.bits]; omega
end Go.Proofs.Ytdbneadblnejgaa
/- Copies of numbers. -/
namespace Go.Proofs.Ytdbneadblnejgaa
open Go.Am
set_option linter.unusedVariables false
set_option linter.unusedSimpArgs false
set_option maxRecDepth 100000
end Go.Proofs.Ytdbneadblnejgaa
/- IsOrder: both sides. -/
namespace Go.Proofs.Ytdbneadblnejgaa
open Go.Am
set_option linter.unusedVariables false
set_option linter.unusedSimpArgs false
set_option maxRecDepth 100000
set_option maxHeartbeats 4000000

/-- whether numbers are the shut valves in some order -/
def ordTo (l : List Vl) (a : List Int) (k : Nat) : Prop := ∀ i, i < k → hasI (shutL l) (a.getD i 0) = true ∧ hasI (a.take i) (a.getD i 0) = false
instance ordTo_dec (l : List Vl) (a : List Int) (k : Nat) : Decidable (ordTo l a k) := by unfold ordTo; infer_instance
def ordB (l : List Vl) (a : List Int) : Bool := decide (a.length = (shutL l).length) && decide (ordTo l a a.length)
def isOrd (n : Int) (ps : List Pp) (l : List Vl) (src : Int) (a : List Int) : Bool := askR n ps l src && ordB l a
theorem nodup_of {a : List Int} (h : ∀ i, i < a.length → hasI (a.take i) (a.getD i 0) = false) : a.Nodup := by
  refine List.pairwise_iff_getElem.2 fun i j hi hj hij e => ?_
  have := of_decide_eq_false (h j hj)
  refine this (List.mem_iff_getElem.2 ⟨i, by rw [List.length_take]; omega, ?_⟩)
  rw [List.getElem_take, e, List.getD_eq_getElem?_getD, List.getElem?_eq_getElem hj]; rfl
theorem of_nodup {a : List Int} (h : a.Nodup) {i : Nat} (hi : i < a.length) : hasI (a.take i) (a.getD i 0) = false := by
  refine decide_eq_false fun hm => ?_
  obtain ⟨j, hj, e⟩ := List.mem_iff_getElem.1 hm
  rw [List.length_take] at hj
  rw [List.getElem_take, List.getD_eq_getElem?_getD, List.getElem?_eq_getElem hi] at e
  exact List.pairwise_iff_getElem.1 h j i (by omega) hi (by omega) e
theorem perm_of_sub : ∀ {a b : List Int}, a.Nodup → (∀ x ∈ a, x ∈ b) → b.length ≤ a.length → a.Perm b
  | [], b, _, _, h => by
    have : b = [] := List.length_eq_zero_iff.1 (by simpa using h)
    rw [this]
  | x :: a, b, hn, hs, hl => by
    have hn' := List.pairwise_cons.1 hn
    obtain ⟨s, t, rfl⟩ := List.append_of_mem (hs x (by simp))
    have : a.Perm (s ++ t) := perm_of_sub hn'.2 (fun y hy => by
      have := hs y (List.mem_cons_of_mem _ hy)
      rcases List.mem_append.1 this with h | h
      · exact List.mem_append_left _ h
      · rcases List.mem_cons.1 h with rfl | h
        · exact absurd rfl (hn'.1 y hy)
        · exact List.mem_append_right _ h) (by simp at hl ⊢; omega)
    exact (List.Perm.cons x this).trans List.perm_middle.symm
theorem vl_asc {n : Int} {ps : List Pp} {l : List Vl} (h : goodV n ps l = true) : ∀ (i d : Nat), i + d + 1 < l.length → (l.getD i vl0).1 < (l.getD (i + d + 1) vl0).1
  | i, d, hi => by
    have st : ∀ j, j + 1 < l.length → (l.getD j vl0).1 < (l.getD (j + 1) vl0).1 := fun j hj => by
      unfold goodV at h
      simp only [Bool.and_eq_true, decide_eq_true_eq] at h
      have := h.2.2 (j + 1) hj
      unfold oneV at this
      simp only [Bool.and_eq_true, Bool.not_eq_true', Bool.and_eq_false_iff, decide_eq_false_iff_not, Nat.add_sub_cancel] at this
      rcases this.2.1 with h1 | h1
      · omega
      · omega
    induction d with
    | zero => exact st i hi
    | succ d ih => have := ih (by omega); have := st (i + d + 1) (by omega); rw [show i + (d + 1) + 1 = i + d + 1 + 1 by omega]; omega
theorem shutTo_up {n : Int} {ps : List Pp} {l : List Vl} (h : goodV n ps l = true) : ∀ k, k ≤ l.length → Up (shutTo l k) ∧ ∀ x ∈ shutTo l k, ∃ i, i < k ∧ x = (l.getD i vl0).1
  | 0, _ => ⟨List.Pairwise.nil, fun x hx => absurd hx (by simp [shutTo])⟩
  | k + 1, hk => by
    obtain ⟨h1, h2⟩ := shutTo_up h k (by omega)
    rw [shutTo]
    split
    · refine ⟨List.pairwise_append.2 ⟨h1, List.pairwise_singleton _ _, fun x hx y hy => ?_⟩, fun x hx => ?_⟩
      · obtain ⟨i, hi, rfl⟩ := h2 x hx
        rw [List.mem_singleton.1 hy]
        obtain ⟨d, rfl⟩ : ∃ d, k = i + d + 1 := ⟨k - i - 1, by omega⟩
        exact vl_asc h i d (by omega)
      · rcases List.mem_append.1 hx with hx | hx
        · obtain ⟨i, hi, e⟩ := h2 x hx
          exact ⟨i, by omega, e⟩
        · exact ⟨k, by omega, List.mem_singleton.1 hx⟩
    · refine ⟨h1, fun x hx => ?_⟩
      obtain ⟨i, hi, e⟩ := h2 x hx
      exact ⟨i, by omega, e⟩
theorem ordB_perm {l : List Vl} {a : List Int} (h : ordB l a = true) : a.Perm (shutL l) := by
  unfold ordB at h
  simp only [Bool.and_eq_true, decide_eq_true_eq] at h
  refine perm_of_sub (nodup_of fun i hi => (h.2 i hi).2) (fun x hx => ?_) (by omega)
  obtain ⟨i, hi, e⟩ := List.mem_iff_getElem.1 hx
  have := of_decide_eq_true (h.2 i hi).1
  rwa [List.getD_eq_getElem?_getD, List.getElem?_eq_getElem hi, Option.getD_some, e] at this
theorem ordB_sorted {n : Int} {ps : List Pp} {l : List Vl} (hg : goodV n ps l = true) {a m : List Int} (hm : m.Perm a) (hs : Srt m) : decide (m = shutL l) = ordB l a := by
  have hu := (shutTo_up hg l.length (Nat.le_refl _)).1
  cases ho : ordB l a
  · refine decide_eq_false fun e => ?_
    have hp : a.Perm (shutL l) := by rw [← e]; exact hm.symm
    have hnd : a.Nodup := hp.nodup_iff.2 (hu.imp fun h => by omega)
    have : ordB l a = true := by
      unfold ordB
      have h2 : ordTo l a a.length := fun i hi => ⟨by
        refine decide_eq_true (hp.mem_iff.1 ?_)
        rw [List.getD_eq_getElem?_getD, List.getElem?_eq_getElem hi]
        exact List.getElem_mem hi, of_nodup hnd hi⟩
      rw [decide_eq_true hp.length_eq, decide_eq_true h2]; rfl
    rw [this] at ho; cases ho
  · exact decide_eq_true (srt_perm_eq (hm.trans (ordB_perm ho)) hs (hu.imp fun h => by omega))
end Go.Proofs.Ytdbneadblnejgaa
/- IsGentle: both sides. -/
namespace Go.Proofs.Ytdbneadblnejgaa
open Go.Am
set_option linter.unusedVariables false
set_option linter.unusedSimpArgs false
set_option maxRecDepth 100000
set_option maxHeartbeats 4000000

def vlIs (id : Int) (v : Vl) : Bool := decide (v.1 = id)
/-- the valve with an Id -/
def vlAt (l : List Vl) (id : Int) : Vl := l.getD (ixOf (vlIs id) l).toNat vl0
/-- whether water reaches the pipe or the node of a valve -/
def tchB (ps : List Pp) (R : List Bool) (v : Vl) : Bool := R.getD v.2.2.1.toNat false || R.getD (9 + (pipeIx ps v.2.1).toNat) false
theorem vl_ok {n : Int} {ps : List Pp} {l : List Vl} (h : goodV n ps l = true) {i : Nat} (hi : i < l.length) : (∃ q : Nat, pipeIx ps (l.getD i vl0).2.1 = (q : Int) ∧ q < ps.length) ∧ 1 ≤ (l.getD i vl0).2.2.1 ∧ (l.getD i vl0).2.2.1 ≤ n := by
  have hN := (goodV_net h).1
  unfold goodV at h
  simp only [Bool.and_eq_true, decide_eq_true_eq] at h
  have := h.2.2 i hi
  unfold oneV at this
  simp only [Bool.and_eq_true] at this
  have ho := this.2.2.1
  unfold onP at ho
  simp only [Bool.and_eq_true, Bool.or_eq_true, decide_eq_true_eq] at ho
  rcases ix_cases pp0 (pipeIs (l.getD i vl0).2.1) ps with ⟨h1, _⟩ | ⟨q, h1, h2, _⟩
  · have : pipeIx ps (l.getD i vl0).2.1 = -1 := h1
    omega
  · have hp : pipeIx ps (l.getD i vl0).2.1 = (q : Int) := h1
    rw [hp, Int.toNat_natCast] at ho
    have := hN.f_end q h2
    refine ⟨⟨q, hp, h2⟩, ?_⟩
    rcases ho.2 with e | e <;> omega
theorem shutTo_mem (l : List Vl) : ∀ (k : Nat), ∀ x ∈ shutTo l k, ∃ i, i < k ∧ x = (l.getD i vl0).1
  | 0, x, h => absurd h (by simp [shutTo])
  | k + 1, x, h => by
    rw [shutTo] at h
    split at h
    · rcases List.mem_append.1 h with h | h
      · obtain ⟨i, hi, e⟩ := shutTo_mem l k x h; exact ⟨i, by omega, e⟩
      · exact ⟨k, by omega, List.mem_singleton.1 h⟩
    · obtain ⟨i, hi, e⟩ := shutTo_mem l k x h; exact ⟨i, by omega, e⟩
theorem vlIs_ix {l : List Vl} {id : Int} (h : hasI (shutL l) id = true) : ∃ q : Nat, ixOf (vlIs id) l = (q : Int) ∧ q < l.length ∧ vlAt l id = l.getD q vl0 := by
  obtain ⟨i, hi, e⟩ := shutTo_mem l l.length id (of_decide_eq_true h)
  rcases ix_cases vl0 (vlIs id) l with ⟨_, h2⟩ | ⟨q, h1, h2, _⟩
  · have := of_decide_eq_false (h2 i hi)
    exact absurd e.symm this
  · exact ⟨q, h1, h2, by rw [vlAt, h1, Int.toNat_natCast]⟩
theorem mem_dryN {R : List Bool} {j : Nat} : ∀ k, (((j : Nat) : Int) ∈ dryN R k) ↔ (1 ≤ j ∧ j ≤ k ∧ R.getD j false = false)
  | 0 => by simp [dryN]; omega
  | k + 1 => by
    rw [dryN]
    have ih := mem_dryN (R := R) (j := j) k
    split
    · rename_i h
      rw [ih]
      constructor
      · rintro ⟨h1, h2, h3⟩; exact ⟨h1, by omega, h3⟩
      · rintro ⟨h1, h2, h3⟩
        refine ⟨h1, ?_, h3⟩
        rcases Nat.lt_or_ge j (k + 1) with h' | h'
        · omega
        · obtain rfl : j = k + 1 := by omega
          rw [h] at h3; cases h3
    · rename_i h
      rw [List.mem_append, ih, List.mem_singleton]
      constructor
      · rintro (⟨h1, h2, h3⟩ | e)
        · exact ⟨h1, by omega, h3⟩
        · obtain rfl : j = k + 1 := by omega
          exact ⟨by omega, by omega, by simpa using h⟩
      · rintro ⟨h1, h2, h3⟩
        rcases Nat.lt_or_ge j (k + 1) with h' | h'
        · exact .inl ⟨h1, by omega, h3⟩
        · exact .inr (by omega)
theorem mem_dryP {R : List Bool} {j : Nat} : ∀ k, (((j : Nat) : Int) ∈ dryP R k) ↔ (j < k ∧ R.getD (9 + j) false = false)
  | 0 => by simp [dryP]
  | k + 1 => by
    rw [dryP]
    have ih := mem_dryP (R := R) (j := j) k
    split
    · rename_i h
      rw [ih]
      constructor
      · rintro ⟨h2, h3⟩; exact ⟨by omega, h3⟩
      · rintro ⟨h2, h3⟩
        refine ⟨?_, h3⟩
        rcases Nat.lt_or_ge j k with h' | h'
        · omega
        · obtain rfl : j = k := by omega
          rw [h] at h3; cases h3
    · rename_i h
      rw [List.mem_append, ih, List.mem_singleton]
      constructor
      · rintro (⟨h2, h3⟩ | e)
        · exact ⟨by omega, h3⟩
        · obtain rfl : j = k := by omega
          exact ⟨by omega, by simpa using h⟩
      · rintro ⟨h2, h3⟩
        rcases Nat.lt_or_ge j k with h' | h'
        · exact .inl ⟨h', h3⟩
        · exact .inr (by omega)
theorem has_dryN {R : List Bool} {j k : Nat} (h1 : 1 ≤ j) (h2 : j ≤ k) : hasI (dryN R k) (j : Int) = !R.getD j false := by
  unfold hasI
  rw [decide_eq_decide.2 (mem_dryN k)]
  by_cases h : R.getD j false = true
  · rw [show (!R.getD j false) = false by rw [h]; rfl]
    exact decide_eq_false fun h' => by rw [h] at h'; cases h'.2.2
  · have h' : R.getD j false = false := by simpa using h
    rw [show (!R.getD j false) = true by rw [h']; rfl]
    exact decide_eq_true ⟨h1, h2, h'⟩
theorem has_dryP {R : List Bool} {j k : Nat} (h2 : j < k) : hasI (dryP R k) (j : Int) = !R.getD (9 + j) false := by
  unfold hasI
  rw [decide_eq_decide.2 (mem_dryP k)]
  by_cases h : R.getD (9 + j) false = true
  · rw [show (!R.getD (9 + j) false) = false by rw [h]; rfl]
    exact decide_eq_false fun h' => by rw [h] at h'; cases h'.2
  · have h' : R.getD (9 + j) false = false := by simpa using h
    rw [show (!R.getD (9 + j) false) = true by rw [h']; rfl]
    exact decide_eq_true ⟨h2, h'⟩
theorem opL_congr (l : List Vl) {a b : List Int} (h : ∀ x, hasI a x = hasI b x) : opL l a = opL l b := by
  refine List.ext_getElem (by rw [opL_length, opL_length]) fun i h1 h2 => ?_
  rw [opL_length] at h1
  have e1 := opL_getD l a h1
  have e2 := opL_getD l b h1
  have : opV a (l.getD i vl0) = opV b (l.getD i vl0) := by unfold opV; rw [h]
  rw [this, ← e2, List.getD_eq_getElem?_getD, List.getElem?_eq_getElem (by rw [opL_length]; exact h1), List.getD_eq_getElem?_getD, List.getElem?_eq_getElem (by rw [opL_length]; exact h1)] at e1
  simpa using e1
theorem opL_perm (l : List Vl) {a b : List Int} (h : a.Perm b) : opL l a = opL l b := opL_congr l fun x => by unfold hasI; rw [decide_eq_decide]; exact h.mem_iff
/-- whether water reaches a valve after some are opened -/
def rchB (ps : List Pp) (l : List Vl) (src : Int) (ids : List Int) (id : Int) : Bool := tchB ps (wetR ps (opL l ids) src) (vlAt l id)
/-- whether a step is gentle -/
def gtlB (ps : List Pp) (l : List Vl) (src : Int) (a : List Int) (k : Nat) : Bool := rchB ps l src (a.take k) (a.getD k 0) || !rchB ps l src (shutL l) (a.getD k 0)
def gtlTo (ps : List Pp) (l : List Vl) (src : Int) (a : List Int) (k : Nat) : Prop := ∀ i, i < k → gtlB ps l src a i = true
instance gtlTo_dec (ps : List Pp) (l : List Vl) (src : Int) (a : List Int) (k : Nat) : Decidable (gtlTo ps l src a k) := by unfold gtlTo; infer_instance
def gtlN (ps : List Pp) (l : List Vl) (src : Int) (a : List Int) : Bool := decide (gtlTo ps l src a a.length)
theorem gtlN_no {ps : List Pp} {l : List Vl} {src : Int} {a : List Int} {k : Nat} (hk : k < a.length) (h : gtlB ps l src a k = false) : gtlN ps l src a = false :=
  decide_eq_false fun h' => by have := h' k hk; rw [h] at this; cases this
theorem gtlTo.next {ps : List Pp} {l : List Vl} {src : Int} {a : List Int} {k : Nat} (h : gtlTo ps l src a k) (h1 : gtlB ps l src a k = true) : gtlTo ps l src a (k + 1) := by
  intro i hi
  rcases Nat.lt_or_ge i k with h' | h'
  · exact h i h'
  · obtain rfl : i = k := by omega
    exact h1
end Go.Proofs.Ytdbneadblnejgaa
/- Helpers of the laws on Network. -/
namespace Go.Proofs.Ytdbneadblnejgaa
open Go.Am
set_option linter.unusedVariables false
set_option linter.unusedSimpArgs false
set_option maxRecDepth 100000
set_option maxHeartbeats 2000000

end Go.Proofs.Ytdbneadblnejgaa
/- IsGentle: both sides, and the law. -/
namespace Go.Proofs.Ytdbneadblnejgaa
open Go.Am
set_option linter.unusedVariables false
set_option linter.unusedSimpArgs false
set_option maxRecDepth 100000
set_option maxHeartbeats 4000000

end Go.Proofs.Ytdbneadblnejgaa
/- WaitingOf: both sides, and the law. -/
namespace Go.Proofs.Ytdbneadblnejgaa
open Go.Am
set_option linter.unusedVariables false
set_option linter.unusedSimpArgs false
set_option maxRecDepth 100000
set_option maxHeartbeats 4000000

def notC (x : Int) : Bool := !inB x 0 1000
/-- whether there is a valid number of customers at each node -/
def custOk (n : Int) (cu : List Int) : Bool := decide ((cu.length : Int) = n) && !decide (0 ≤ ixOf notC cu)
theorem custOk_at {n : Int} {cu : List Int} (h : custOk n cu = true) : (cu.length : Int) = n ∧ ∀ i, 0 ≤ cu.getD i 0 ∧ cu.getD i 0 ≤ 1000 := by
  unfold custOk at h
  simp only [Bool.and_eq_true, decide_eq_true_eq, Bool.not_eq_true', decide_eq_false_iff_not] at h
  refine ⟨h.1, fun i => ?_⟩
  rcases ix_cases 0 notC cu with ⟨_, h2⟩ | ⟨q, h1, _⟩
  · by_cases hi : i < cu.length
    · have := h2 i hi
      simp [notC, inB, -List.getD_eq_getElem?_getD] at this
      omega
    · rw [List.getD_eq_getElem?_getD, List.getElem?_eq_none (by omega)]; simp
  · omega
theorem indexFuncNm_A (l : List Int) (p : Int → Bool) (g : Nat) (cap : Array Value) (hl : l.length ≤ 1048577) (c : Nat) (H : Heap) (t : Nat) (hS : Sl nmE H t l) (hc : L2 (WMP (sg H.length []) H.length) cap.toList cap.toList)
    (hp : ∀ k, k < l.length → AFunC Try.prog g (.int .i64 (l.getD k 0) :: cap.toList) H (.bool (p (l.getD k 0))) H) :
    AFunC Try.prog 36 [.slice (some ⟨t, 0, none⟩) l.length c, .func (.func g) #[] cap] H (.int .i64 (ixOf p l)) H := by
  refine AFunC.of_body Try.func36 (by kernel_rfl) rfl (by kernel_rfl) (by simp [Try.ntmps36]) ?_
  have ht := hS.lt
  have cs := fun k hk => hS.one (g := fun n => Value.int .i64 n) 0 k hk
  have hr := found_ix 0 p l
  simp -dsimp -implicitDefEqProofs (disch := omega) [go_sem, -List.getD_eq_getElem?_getD, ite_yes]
  refine ALoop.intro (ι := Nat) (fun k => k ≤ l.length ∧ findTo 0 p l k) (fun k => [(0, .slice (some ⟨t, 0, none⟩) l.length c), (1, .func (.func g) #[] cap), (7, .int .i64 l.length), (8, .int .i64 k)]) (fun _ => H) (fun k => l.length - k) 0 ⟨by omega, fun i hi => by omega⟩ ?_ ?_
  · exact weakS_same (by simp -dsimp -implicitDefEqProofs (disch := omega) [go_sem, -List.getD_eq_getElem?_getD, ite_yes, ht]; simpa using hc)
  · rintro k ⟨hk, hf⟩
    by_cases hlt : k < l.length
    · simp -dsimp -implicitDefEqProofs (disch := omega) [go_sem, -List.getD_eq_getElem?_getD, ite_yes, hlt, cs]
      refine ACall.of (hp k hlt) ?_
      simp -dsimp -implicitDefEqProofs (disch := omega) [go_sem, -List.getD_eq_getElem?_getD, ite_yes]
      refine AIf.of (fun h => ?_) (fun h => ?_)
      · simp -dsimp -implicitDefEqProofs (disch := omega) [go_sem, -List.getD_eq_getElem?_getD, ite_yes]
        have := found_uniq hr (.yes k hlt h hf)
        exact fin_flat0 rfl (by rw [this])
      · simp -dsimp -implicitDefEqProofs (disch := omega) [go_sem, -List.getD_eq_getElem?_getD, ite_yes]
        exact LoopEnd.of (k + 1) ⟨by omega, hf.next h⟩ (by omega) (weakS_same (by simp -dsimp -implicitDefEqProofs (disch := omega) [go_sem, -List.getD_eq_getElem?_getD, ite_yes, ht]; simpa using hc))
    · simp -dsimp -implicitDefEqProofs (disch := omega) [go_sem, -List.getD_eq_getElem?_getD, ite_yes, hlt]
      obtain rfl : k = l.length := by omega
      have := found_uniq hr (.no hf)
      exact fin_flat0 rfl (by rw [this])
theorem containsFuncNm_A (l : List Int) (p : Int → Bool) (g : Nat) (cap : Array Value) (hl : l.length ≤ 1048577) (c : Nat) (H : Heap) (t : Nat) (hS : Sl nmE H t l) (hc : L2 (WMP (sg H.length []) H.length) cap.toList cap.toList)
    (hp : ∀ k, k < l.length → AFunC Try.prog g (.int .i64 (l.getD k 0) :: cap.toList) H (.bool (p (l.getD k 0))) H) :
    AFunC Try.prog 28 [.slice (some ⟨t, 0, none⟩) l.length c, .func (.func g) #[] cap] H (.bool (decide (0 ≤ ixOf p l))) H := by
  refine AFunC.of_body Try.func28 (by kernel_rfl) rfl (by kernel_rfl) (by simp [Try.ntmps28]) ?_
  simp -dsimp -implicitDefEqProofs (disch := omega) [go_sem, -List.getD_eq_getElem?_getD, ite_yes]
  refine ACall.of (indexFuncNm_A l p g cap hl c H t hS hc hp) ?_
  simp -dsimp -implicitDefEqProofs (disch := omega) [go_sem, -List.getD_eq_getElem?_getD, ite_yes]
  exact fin_flat0 rfl rfl
def harmTo (R : List Bool) (cu : List Int) : Nat → Int
  | 0 => 0
  | k + 1 => if R.getD (k + 1) false then harmTo R cu k else harmTo R cu k + cu.getD k 0
theorem harmTo_rng {R : List Bool} {cu : List Int} (h : ∀ i, 0 ≤ cu.getD i 0 ∧ cu.getD i 0 ≤ 1000) : ∀ k : Nat, 0 ≤ harmTo R cu k ∧ harmTo R cu k ≤ 1000 * (k : Int)
  | 0 => by simp [harmTo]
  | k + 1 => by
    have := harmTo_rng (R := R) h k
    have := h k
    rw [harmTo]
    split <;> omega
/-- the sum of the customers at the first k of some nodes -/
def sumD (D cu : List Int) : Nat → Int
  | 0 => 0
  | k + 1 => sumD D cu k + cu.getD (D.getD k 0 - 1).toNat 0
theorem sumD_left (D E cu : List Int) : ∀ k, k ≤ D.length → sumD (D ++ E) cu k = sumD D cu k
  | 0, _ => rfl
  | k + 1, hk => by
    have e : (D ++ E).getD k 0 = D.getD k 0 := by
      rw [List.getD_eq_getElem?_getD, List.getElem?_append_left (by omega), ← List.getD_eq_getElem?_getD]
    rw [sumD, sumD, sumD_left D E cu k (by omega), e]
theorem sumD_dry (R : List Bool) (cu : List Int) : ∀ k, sumD (dryN R k) cu (dryN R k).length = harmTo R cu k
  | 0 => rfl
  | k + 1 => by
    rw [dryN, harmTo]
    split
    · exact sumD_dry R cu k
    · rw [List.length_append, List.length_singleton, sumD, sumD_left _ _ _ _ (Nat.le_refl _), sumD_dry R cu k]
      have : (dryN R k ++ [((k + 1 : Nat) : Int)]).getD (dryN R k).length 0 = ((k + 1 : Nat) : Int) := by
        rw [List.getD_eq_getElem?_getD, List.getElem?_append_right (Nat.le_refl _), Nat.sub_self]; rfl
      rw [this]
      congr 2
      omega
theorem sumD_rng {D cu : List Int} (h : ∀ i, 0 ≤ cu.getD i 0 ∧ cu.getD i 0 ≤ 1000) : ∀ k : Nat, 0 ≤ sumD D cu k ∧ sumD D cu k ≤ 1000 * (k : Int)
  | 0 => by simp [sumD]
  | k + 1 => by
    have := sumD_rng (D := D) h k
    have := h (D.getD k 0 - 1).toNat
    rw [sumD]
    omega
def stepN (n : Int) (ps : List Pp) (l : List Vl) (src : Int) (ids cu : List Int) : Int := harmTo (wetR ps (opL l ids) src) cu n.toNat
def waitTo (n : Int) (ps : List Pp) (l : List Vl) (src : Int) (a cu : List Int) : Nat → Int
  | 0 => 0
  | k + 1 => waitTo n ps l src a cu k + stepN n ps l src (a.take k) cu
theorem stepN_rng {n : Int} (hn : 1 ≤ n ∧ n ≤ 8) {ps : List Pp} {l : List Vl} {src : Int} {ids cu : List Int} (h : ∀ i, 0 ≤ cu.getD i 0 ∧ cu.getD i 0 ≤ 1000) : 0 ≤ stepN n ps l src ids cu ∧ stepN n ps l src ids cu ≤ 8000 := by
  have := harmTo_rng (R := wetR ps (opL l ids) src) h n.toNat
  unfold stepN
  omega
theorem waitTo_rng {n : Int} (hn : 1 ≤ n ∧ n ≤ 8) {ps : List Pp} {l : List Vl} {src : Int} {a cu : List Int} (h : ∀ i, 0 ≤ cu.getD i 0 ∧ cu.getD i 0 ≤ 1000) : ∀ k : Nat, 0 ≤ waitTo n ps l src a cu k ∧ waitTo n ps l src a cu k ≤ 8000 * (k : Int)
  | 0 => by simp [waitTo]
  | k + 1 => by
    have := waitTo_rng hn (ps := ps) (l := l) (src := src) (a := a) h k
    have := stepN_rng hn (ps := ps) (l := l) (src := src) (ids := a.take k) h
    rw [waitTo]
    omega
end Go.Proofs.Ytdbneadblnejgaa
/- Fractions: greatest common divisors, lowest terms, sums, comparisons. -/
namespace Go.Proofs.Ytdbneadblnejgaa
open Go.Am
set_option linter.unusedVariables false
set_option linter.unusedSimpArgs false
set_option maxRecDepth 100000

theorem gcd_step {a b : Nat} : Nat.gcd b (a % b) = Nat.gcd a b := by rw [Nat.gcd_comm b, ← Nat.gcd_rec b a, Nat.gcd_comm]
theorem gcd_le {a b : Nat} (hb : 0 < b) : Nat.gcd a b ≤ b := Nat.gcd_le_right a hb
theorem gcd_pos {a b : Nat} (hb : 0 < b) : 0 < Nat.gcd a b := Nat.gcd_pos_of_pos_right a hb
theorem wrapN {n m : Nat} (h1 : n ≤ m) (h2 : m ≤ 4000000000000000000) : IntKind.i64.wrap (n : Int) = n := wrap_ok (by omega) (by omega)
theorem modC (a b : Nat) : (a : Int) % (b : Int) = ((a % b : Nat) : Int) := (Int.natCast_emod a b).symm
theorem divC (a b : Nat) : (a : Int) / (b : Int) = ((a / b : Nat) : Int) := (Int.natCast_ediv a b).symm
/-! ### lowest terms -/
def redN (a b : Nat) : Nat × Nat := (a / Nat.gcd a b, b / Nat.gcd a b)
def plusN (p q : Nat × Nat) : Nat × Nat := redN (p.1 * q.2 + q.1 * p.2) (p.2 * q.2)
theorem redN_scale {g a b : Nat} (hg : 0 < g) : redN (g * a) (g * b) = redN a b := by
  unfold redN
  rw [Nat.gcd_mul_left, Nat.mul_div_mul_left _ _ hg, Nat.mul_div_mul_left _ _ hg]
theorem redN_one (a : Nat) : redN a 1 = (a, 1) := by simp [redN]
theorem redN_whole (u : Nat) {d : Nat} (hd : 0 < d) : redN (u * d) d = (u, 1) := by
  have := redN_scale (g := d) (a := u) (b := 1) hd
  rw [Nat.mul_one, Nat.mul_comm d u, redN_one] at this
  exact this
theorem redN_zero {d : Nat} (hd : 0 < d) : redN 0 d = (0, 1) := by
  have := redN_whole 0 hd
  rwa [Nat.zero_mul] at this
theorem redN_eq (a : Nat) {b : Nat} (hb : 0 < b) : ∃ g, 0 < g ∧ a = g * (redN a b).1 ∧ b = g * (redN a b).2 := by
  refine ⟨Nat.gcd a b, gcd_pos hb, ?_, ?_⟩
  · exact (Nat.mul_div_cancel' (Nat.gcd_dvd_left a b)).symm
  · exact (Nat.mul_div_cancel' (Nat.gcd_dvd_right a b)).symm
theorem redN_pos {a b : Nat} (hb : 0 < b) : 0 < (redN a b).2 := by
  obtain ⟨g, h1, _, h3⟩ := redN_eq a hb
  rcases Nat.eq_zero_or_pos (redN a b).2 with h | h
  · rw [h] at h3; omega
  · exact h
theorem redN_le (a b : Nat) : (redN a b).1 ≤ a ∧ (redN a b).2 ≤ b := ⟨Nat.div_le_self _ _, Nat.div_le_self _ _⟩
theorem redN_redN (a : Nat) {b : Nat} (hb : 0 < b) : redN (redN a b).1 (redN a b).2 = redN a b := by
  obtain ⟨g, h1, h2, h3⟩ := redN_eq a hb
  have := redN_scale (a := (redN a b).1) (b := (redN a b).2) h1
  rw [← h2, ← h3] at this
  exact this.symm
theorem plusN_zero {a b : Nat} (hb : 0 < b) : plusN (redN a b) (0, 1) = redN a b := by
  unfold plusN
  simp only [Nat.mul_one, Nat.zero_mul, Nat.add_zero]
  exact redN_redN a hb
theorem plusN_whole (s u : Nat) : plusN (s, 1) (u, 1) = (s + u, 1) := by simp [plusN, redN_one]
theorem plusN_part (s x : Nat) {d : Nat} (hd : 0 < d) : plusN (s, 1) (redN x d) = redN (s * d + x) d := by
  obtain ⟨g, h1, h2, h3⟩ := redN_eq x hd
  have h := redN_scale (a := s * (redN x d).2 + (redN x d).1) (b := (redN x d).2) h1
  have e : g * (s * (redN x d).2 + (redN x d).1) = s * d + x := by
    conv => rhs; rw [h2]
    conv => rhs; lhs; rw [h3]
    rw [Nat.mul_add, Nat.mul_left_comm]
  rw [e, ← h3] at h
  unfold plusN
  simp only [Nat.mul_one, Nat.one_mul]
  exact h.symm
def cmpI (x y : Int) : Int := if x < y then -1 else if y < x then 1 else 0
theorem compare_A (x y : Int) (H : Heap) : AFunC Try.prog 20 [.int .i64 x, .int .i64 y] H (.int .i64 (cmpI x y)) H := by
  refine AFunC.of_body Try.func20 (by kernel_rfl) rfl (by kernel_rfl) (by simp [Try.ntmps20]) ?_
  simp -dsimp -implicitDefEqProofs (disch := omega) [go_sem, -List.getD_eq_getElem?_getD, ite_yes]
  refine ACall.of (isNaN_A _ _) ?_
  simp -dsimp -implicitDefEqProofs (disch := omega) [go_sem, -List.getD_eq_getElem?_getD, ite_yes]
  refine ACall.of (isNaN_A _ _) ?_
  simp -dsimp -implicitDefEqProofs (disch := omega) [go_sem, -List.getD_eq_getElem?_getD, ite_yes]
  refine AIf.of (fun h => ?_) (fun h => ?_)
  · simp -dsimp -implicitDefEqProofs (disch := omega) [go_sem, -List.getD_eq_getElem?_getD, ite_yes]
    simp at h
    exact fin_flat0 rfl (by simp [cmpI, h])
  · simp -dsimp -implicitDefEqProofs (disch := omega) [go_sem, -List.getD_eq_getElem?_getD, ite_yes]
    simp at h
    refine AIf.of (fun h2 => ?_) (fun h2 => ?_)
    · simp -dsimp -implicitDefEqProofs (disch := omega) [go_sem, -List.getD_eq_getElem?_getD, ite_yes]
      simp at h2
      exact fin_flat0 rfl (by simp [cmpI, h2]; omega)
    · simp -dsimp -implicitDefEqProofs (disch := omega) [go_sem, -List.getD_eq_getElem?_getD, ite_yes]
      simp at h2
      exact fin_flat0 rfl (by simp [cmpI]; omega)
theorem l1Most_A (a b : Int) (H : Heap) : AFunC Try.prog 35 [.int .i64 a, .int .i64 b] H (.int .i64 (max a b)) H := by
  refine AFunC.of_body Try.func35 (by kernel_rfl) rfl (by kernel_rfl) (by simp [Try.ntmps35]) ?_
  simp -dsimp -implicitDefEqProofs (disch := omega) [go_sem, -List.getD_eq_getElem?_getD, ite_yes]
  refine AIf.of (fun h => ?_) (fun h => ?_)
  · simp -dsimp -implicitDefEqProofs (disch := omega) [go_sem, -List.getD_eq_getElem?_getD, ite_yes]
    simp at h
    exact fin_flat0 rfl (by congr 1; omega)
  · simp -dsimp -implicitDefEqProofs (disch := omega) [go_sem, -List.getD_eq_getElem?_getD, ite_yes]
    simp at h
    exact fin_flat0 rfl (by congr 1; omega)
end Go.Proofs.Ytdbneadblnejgaa
