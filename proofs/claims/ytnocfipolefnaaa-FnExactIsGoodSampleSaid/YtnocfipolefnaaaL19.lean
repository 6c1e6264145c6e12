/- Meters: what the functions on readings compute. -/
import Derived.Test.YtnocfipolefnaaaFacts
import Derived.Test.YtnocfipolefnaaaAm11
namespace Go.Proofs.Ytnocfipolefnaaa
open Go.Am
set_option linter.unusedVariables false
set_option linter.unusedSimpArgs false
set_option maxRecDepth 100000

def inB (n a b : Int) : Bool := decide (a ≤ n) && decide (n ≤ b)
theorem inside_A (n a b : Int) (H : Heap) : AFunC Try.prog 33 [.int .i64 n, .int .i64 a, .int .i64 b] H (.bool (inB n a b)) H := by
  refine AFunC.of_body Try.func33 (by kernel_rfl) rfl (by kernel_rfl) (by simp [Try.ntmps33]) ?_
  simp -dsimp -implicitDefEqProofs (disch := omega) [go_sem, -List.getD_eq_getElem?_getD, ite_yes]
  refine AIf.of (fun h => ?_) (fun h => ?_) <;> simp at h <;> simp -dsimp -implicitDefEqProofs (disch := omega) [go_sem, -List.getD_eq_getElem?_getD, ite_yes] <;> exact fin_flat0 rfl (by simp [inB]; omega)
theorem l1In_A (n a b : Int) (H : Heap) : AFunC Try.prog 37 [.int .i64 n, .int .i64 a, .int .i64 b] H (.bool (inB n a b)) H := by
  refine AFunC.of_body Try.func37 (by kernel_rfl) rfl (by kernel_rfl) (by simp [Try.ntmps37]) ?_
  simp -dsimp -implicitDefEqProofs (disch := omega) [go_sem, -List.getD_eq_getElem?_getD, ite_yes]
  refine AIf.of (fun h => ?_) (fun h => ?_) <;> simp at h <;> simp -dsimp -implicitDefEqProofs (disch := omega) [go_sem, -List.getD_eq_getElem?_getD, ite_yes] <;> exact fin_flat0 rfl (by simp [inB]; omega)
theorem isDay_A (n : Int) (H : Heap) : AFunC Try.prog 30 [.int .i64 n] H (.bool (inB n 0 3650)) H := by
  refine AFunC.of_body Try.func30 (by kernel_rfl) rfl (by kernel_rfl) (by simp [Try.ntmps30]) ?_
  simp -dsimp -implicitDefEqProofs (disch := omega) [go_sem, -List.getD_eq_getElem?_getD, ite_yes]
  refine ACall.of (inside_A _ _ _ _) ?_
  simp -dsimp -implicitDefEqProofs (disch := omega) [go_sem, -List.getD_eq_getElem?_getD, ite_yes]
  exact fin_flat0 rfl rfl
theorem l19Day_A (n : Int) (H : Heap) : AFunC Try.prog 53 [.int .i64 n] H (.bool (inB n 0 3650)) H := by
  refine AFunC.of_body Try.func53 (by kernel_rfl) rfl (by kernel_rfl) (by simp [Try.ntmps53]) ?_
  simp -dsimp -implicitDefEqProofs (disch := omega) [go_sem, -List.getD_eq_getElem?_getD, ite_yes]
  refine ACall.of (l1In_A _ _ _ _) ?_
  simp -dsimp -implicitDefEqProofs (disch := omega) [go_sem, -List.getD_eq_getElem?_getD, ite_yes]
  exact fin_flat0 rfl rfl
abbrev Rd := Int × Int
def isRd (r : Rd) : Bool := inB r.1 0 3650 && inB r.2 0 99999
def rdE (r : Rd) : List Value := [.int .i64 r.1, .int .i64 r.2]
theorem isReading_A (r : Rd) (H : Heap) : AFunC Try.prog 59 [.agg #[.int .i64 r.1, .int .i64 r.2]] H (.bool (isRd r)) H := by
  refine AFunC.of_body Try.func59 (by kernel_rfl) rfl (by kernel_rfl) (by simp [Try.ntmps59]) ?_
  simp -dsimp -implicitDefEqProofs (disch := omega) [go_sem, -List.getD_eq_getElem?_getD, ite_yes]
  refine ACall.of (isDay_A _ _) ?_
  simp -dsimp -implicitDefEqProofs (disch := omega) [go_sem, -List.getD_eq_getElem?_getD, ite_yes]
  refine AIf.of (fun h => ?_) (fun h => ?_)
  · simp -dsimp -implicitDefEqProofs (disch := omega) [go_sem, -List.getD_eq_getElem?_getD, ite_yes]
    refine ACall.of (inside_A _ _ _ _) ?_
    simp -dsimp -implicitDefEqProofs (disch := omega) [go_sem, -List.getD_eq_getElem?_getD, ite_yes]
    exact fin_flat rfl (by simp [isRd, h])
  · simp -dsimp -implicitDefEqProofs (disch := omega) [go_sem, -List.getD_eq_getElem?_getD, ite_yes]
    exact fin_flat rfl (by simp [isRd, h])
theorem l19One_A (r : Rd) (H : Heap) : AFunC Try.prog 58 [.agg #[.int .i64 r.1, .int .i64 r.2]] H (.bool (isRd r)) H := by
  refine AFunC.of_body Try.func58 (by kernel_rfl) rfl (by kernel_rfl) (by simp [Try.ntmps58]) ?_
  simp -dsimp -implicitDefEqProofs (disch := omega) [go_sem, -List.getD_eq_getElem?_getD, ite_yes]
  refine ACall.of (l19Day_A _ _) ?_
  simp -dsimp -implicitDefEqProofs (disch := omega) [go_sem, -List.getD_eq_getElem?_getD, ite_yes]
  refine AIf.of (fun h => ?_) (fun h => ?_)
  · simp -dsimp -implicitDefEqProofs (disch := omega) [go_sem, -List.getD_eq_getElem?_getD, ite_yes]
    refine ACall.of (l1In_A _ _ _ _) ?_
    simp -dsimp -implicitDefEqProofs (disch := omega) [go_sem, -List.getD_eq_getElem?_getD, ite_yes]
    exact fin_flat rfl (by simp [isRd, h])
  · simp -dsimp -implicitDefEqProofs (disch := omega) [go_sem, -List.getD_eq_getElem?_getD, ite_yes]
    exact fin_flat rfl (by simp [isRd, h])
/-- the readings up to the k-th stand as they should -/
def goodTo (l : List Rd) (k : Nat) : Prop := ∀ i, i < k → isRd (l.getD i (0, 0)) = true ∧ (0 < i → (l.getD (i - 1) (0, 0)).1 < (l.getD i (0, 0)).1)
instance goodTo_dec (l : List Rd) (k : Nat) : Decidable (goodTo l k) := by unfold goodTo; infer_instance
def good (l : List Rd) : Bool := decide (goodTo l l.length ∧ l.length ≤ 12)
theorem goodTo.next {l : List Rd} {k : Nat} (h : goodTo l k) (h1 : isRd (l.getD k (0, 0)) = true) (h2 : 0 < k → (l.getD (k - 1) (0, 0)).1 < (l.getD k (0, 0)).1) : goodTo l (k + 1) := by
  intro i hi
  rcases Nat.lt_or_ge i k with h' | h'
  · exact h i h'
  · obtain rfl : i = k := by omega
    exact ⟨h1, h2⟩
theorem good_no {l : List Rd} {k : Nat} (hk : k < l.length) (h : isRd (l.getD k (0, 0)) = false ∨ 0 < k ∧ (l.getD k (0, 0)).1 ≤ (l.getD (k - 1) (0, 0)).1) : good l = false := by
  unfold good
  refine decide_eq_false fun h' => ?_
  have := h'.1 k hk
  rcases h with h | h
  · rw [this.1] at h; cases h
  · have := this.2 h.1; omega
theorem good_end {l : List Rd} (h : goodTo l l.length) : good l = decide ((l.length : Int) ≤ 12) := by
  unfold good
  by_cases h' : l.length ≤ 12
  · rw [decide_eq_true ⟨h, h'⟩, decide_eq_true (by omega)]
  · rw [decide_eq_false (fun h => h' h.2), decide_eq_false (by omega)]
theorem good_at {l : List Rd} (h : good l = true) : l.length ≤ 12 ∧ ∀ i, i < l.length → 0 ≤ (l.getD i (0, 0)).1 ∧ (l.getD i (0, 0)).1 ≤ 3650 ∧ 0 ≤ (l.getD i (0, 0)).2 ∧ (l.getD i (0, 0)).2 ≤ 99999 ∧ (0 < i → (l.getD (i - 1) (0, 0)).1 < (l.getD i (0, 0)).1) := by
  unfold good at h
  have h := of_decide_eq_true h
  refine ⟨h.2, fun i hi => ?_⟩
  have := h.1 i hi
  simp only [isRd, inB, Bool.and_eq_true, decide_eq_true_eq] at this
  omega
theorem l19Good_A (l : List Rd) (hl : l.length ≤ 1048577) (c : Nat) (H : Heap) (t : Nat) (hS : Sl rdE H t l) :
    AFunC Try.prog 42 [.slice (some ⟨t, 0, none⟩) l.length c] H (.bool (good l)) H := by
  refine AFunC.of_body Try.func42 (by kernel_rfl) rfl (by kernel_rfl) (by simp [Try.ntmps42]) ?_
  have ht := hS.lt
  have cs := fun k hk => hS.cells (s := 2) (fun _ => rfl) (0, 0) k hk
  have cs0 := fun k hk => hS.cell (s := 2) (fun _ => rfl) (0, 0) k 0 hk (by omega)
  simp only [Nat.add_zero, rdE] at cs0 cs
  simp -dsimp -implicitDefEqProofs (disch := omega) [go_sem, -List.getD_eq_getElem?_getD, ite_yes]
  refine ALoop.intro (ι := Nat) (fun k => k ≤ l.length ∧ goodTo l k) (fun k => [(0, .slice (some ⟨t, 0, none⟩) l.length c), (3, .int .i64 k)]) (fun _ => H) (fun k => l.length - k) 0 ⟨by omega, fun i hi => by omega⟩ ?_ ?_
  · exact weakS_same (by simp -dsimp -implicitDefEqProofs (disch := omega) [go_sem, -List.getD_eq_getElem?_getD, ite_yes, ht])
  · rintro k ⟨hk, hg⟩
    by_cases hlt : k < l.length
    · simp -dsimp -implicitDefEqProofs (disch := omega) [go_sem, -List.getD_eq_getElem?_getD, ite_yes, hlt]
      refine ADraw.quiet (by kernel_rfl) (by kernel_rfl) (by kernel_rfl) ?_
      simp -dsimp -implicitDefEqProofs (disch := omega) [go_sem, -List.getD_eq_getElem?_getD, ite_yes, hlt, cs, cs0]
      refine ACallQ.of (l19One_A (l.getD k (0, 0)) _) rfl ?_
      simp -dsimp -implicitDefEqProofs (disch := omega) [go_sem, -List.getD_eq_getElem?_getD, ite_yes, hlt, cs, cs0]
      refine AIf.of (fun h1 => ?_) (fun h1 => ?_)
      · simp -dsimp -implicitDefEqProofs (disch := omega) [go_sem, -List.getD_eq_getElem?_getD, ite_yes, hlt, cs, cs0]
        exact fin_flat0 rfl (by rw [good_no hlt (.inl (by simpa using h1))])
      · simp -dsimp -implicitDefEqProofs (disch := omega) [go_sem, -List.getD_eq_getElem?_getD, ite_yes, hlt, cs, cs0]
        refine AIf.of (fun h2 => ?_) (fun h2 => ?_)
        · simp at h2
          simp -dsimp -implicitDefEqProofs (disch := omega) [go_sem, -List.getD_eq_getElem?_getD, ite_yes, ite_yes, hlt, cs, cs0]
          refine AIf.of (fun h3 => ?_) (fun h3 => ?_)
          · simp -dsimp -implicitDefEqProofs (disch := omega) [go_sem, -List.getD_eq_getElem?_getD, ite_yes, hlt, cs, cs0]
            exact fin_flat0 rfl (by rw [good_no hlt (.inr ⟨h2, by simpa using h3⟩)])
          · simp -dsimp -implicitDefEqProofs (disch := omega) [go_sem, -List.getD_eq_getElem?_getD, ite_yes, hlt, cs, cs0]
            exact LoopEnd.of (k + 1) ⟨by omega, hg.next (by simpa using h1) fun _ => by simpa using h3⟩ (by omega) (weakS_same (by simp -dsimp -implicitDefEqProofs (disch := omega) [go_sem, -List.getD_eq_getElem?_getD, ite_yes, ht]))
        · simp at h2
          simp -dsimp -implicitDefEqProofs (disch := omega) [go_sem, -List.getD_eq_getElem?_getD, ite_yes, hlt, cs, cs0]
          exact LoopEnd.of (k + 1) ⟨by omega, hg.next (by simpa using h1) fun h => by omega⟩ (by omega) (weakS_same (by simp -dsimp -implicitDefEqProofs (disch := omega) [go_sem, -List.getD_eq_getElem?_getD, ite_yes, ht]))
    · simp -dsimp -implicitDefEqProofs (disch := omega) [go_sem, -List.getD_eq_getElem?_getD, ite_yes, hlt]
      obtain rfl : k = l.length := by omega
      exact fin_flat0 rfl (by rw [good_end hg])
theorem toMR_A (r : Rd) (H : Heap) : AFunC Try.prog 43 [.agg #[.int .i64 r.1, .int .i64 r.2]] H (.agg #[.int .i64 r.1, .int .i64 r.2]) H := by
  refine AFunC.of_body Try.func43 (by kernel_rfl) rfl (by kernel_rfl) (by simp [Try.ntmps43]) ?_
  simp -dsimp -implicitDefEqProofs (disch := omega) [go_sem, -List.getD_eq_getElem?_getD, ite_yes]
  exact fin_flat rfl rfl
theorem eqMR_A (a b : Rd) (H : Heap) : AFunC Try.prog 45 [.agg #[.int .i64 a.1, .int .i64 a.2], .agg #[.int .i64 b.1, .int .i64 b.2]] H (.bool (decide (a = b))) H := by
  refine AFunC.of_body Try.func45 (by kernel_rfl) rfl (by kernel_rfl) (by simp [Try.ntmps45]) ?_
  simp -dsimp -implicitDefEqProofs (disch := omega) [go_sem, -List.getD_eq_getElem?_getD, ite_yes]
  refine AIf.of (fun h => ?_) (fun h => ?_)
  · simp -dsimp -implicitDefEqProofs (disch := omega) [go_sem, -List.getD_eq_getElem?_getD, ite_yes]
    exact fin_flat rfl (by simp at h; simp [Prod.ext_iff, h])
  · simp -dsimp -implicitDefEqProofs (disch := omega) [go_sem, -List.getD_eq_getElem?_getD, ite_yes]
    refine AIf.of (fun h2 => ?_) (fun h2 => ?_)
    · simp -dsimp -implicitDefEqProofs (disch := omega) [go_sem, -List.getD_eq_getElem?_getD, ite_yes]
      exact fin_flat rfl (by simp at h2; simp [Prod.ext_iff, h2])
    · simp -dsimp -implicitDefEqProofs (disch := omega) [go_sem, -List.getD_eq_getElem?_getD, ite_yes]
      exact fin_flat rfl (by simp at h h2; simp [Prod.ext_iff, h, h2])
def szL (n left : Int) : Int := if left - n < 0 then -1 else left - n
theorem szMR_A (n c : Nat) (hn : (n : Int) ≤ 9223372036854775807) (left : Int) (h0 : 0 ≤ left) (h1 : left ≤ 9223372036854775807) (t : Nat) (H : Heap) : AFunC Try.prog 17 [.slice (some ⟨t, 0, none⟩) n c, .int .i64 left] H (.int .i64 (szL n left)) H := by
  refine AFunC.of_body Try.func17 (by kernel_rfl) rfl (by kernel_rfl) (by simp [Try.ntmps17]) ?_
  simp -dsimp -implicitDefEqProofs (disch := omega) [go_sem, -List.getD_eq_getElem?_getD, ite_yes]
  refine AIf.of (fun h => ?_) (fun h => ?_)
  · simp -dsimp -implicitDefEqProofs (disch := omega) [go_sem, -List.getD_eq_getElem?_getD, ite_yes]
    exact fin_flat0 rfl (by simp at h; simp [szL, h])
  · simp -dsimp -implicitDefEqProofs (disch := omega) [go_sem, -List.getD_eq_getElem?_getD, ite_yes]
    exact fin_flat0 rfl (by simp at h; simp [szL]; omega)
theorem toMRS_A (l : List Rd) (hl : l.length ≤ 1048577) (c : Nat) (H : Heap) (t : Nat) (hS : Sl rdE H t l) :
    AFunC Try.prog 19 [.slice (some ⟨t, 0, none⟩) l.length c] H (.slice (some ⟨H.length, 0, none⟩) l.length l.length) (H ++ [some ⟨l.flatMap rdE, true, 58, 2⟩]) := by
  refine AFunC.of_body Try.func19 (by kernel_rfl) rfl (by kernel_rfl) (by simp [Try.ntmps19]) ?_
  have ht := hS.lt
  have cs := fun k hk => hS.cells (s := 2) (fun _ => rfl) (0, 0) k hk
  simp only [rdE] at cs
  simp -dsimp -implicitDefEqProofs (disch := omega) [go_sem, -List.getD_eq_getElem?_getD, ite_yes]
  refine ⟨by omega, ?_⟩
  refine ALoop.intro (ι := Nat) (fun k => k ≤ l.length) (fun k => [(0, .slice (some ⟨t, 0, none⟩) l.length c), (3, .slice (some ⟨H.length, 0, none⟩) l.length l.length), (4, .int .i64 k)]) (fun k => H ++ [some ⟨fillS rdE [.int .i64 0, .int .i64 0] l k, true, 58, 2⟩]) (fun k => l.length - k) 0 (by omega) ?_ ?_
  · refine weakS_mk [some 0] rfl ?_ (by simp -dsimp -implicitDefEqProofs (disch := omega) [go_sem, -List.getD_eq_getElem?_getD, ite_yes, ht])
    simp -dsimp -implicitDefEqProofs (disch := omega) [go_sem, -List.getD_eq_getElem?_getD, ite_yes]
    exact .inl ⟨fillS_zero, by simp [flat]⟩
  · intro k hk
    have hfl := fillS_length (f := rdE) (s := 2) (zs := [.int .i64 0, .int .i64 0]) (fun _ => rfl) rfl hk
    by_cases hlt : k < l.length
    · simp -dsimp -implicitDefEqProofs (disch := omega) [go_sem, -List.getD_eq_getElem?_getD, ite_yes, hlt, cs, ht]
      refine ACall.of (toMR_A (l.getD k (0, 0)) _) ?_
      simp -dsimp -implicitDefEqProofs (disch := omega) [go_sem, -List.getD_eq_getElem?_getD, ite_yes, hlt, cs, ht, hfl]
      refine LoopEnd.of (k + 1) (by omega) (by omega) (weakS_mk [some 0] rfl ?_ (by simp -dsimp -implicitDefEqProofs (disch := omega) [go_sem, -List.getD_eq_getElem?_getD, ite_yes, ht]))
      simp -dsimp -implicitDefEqProofs (disch := omega) [go_sem, -List.getD_eq_getElem?_getD, ite_yes, ht]
      have e := fillS_set (f := rdE) (s := 2) (zs := [.int .i64 0, .int .i64 0]) (fun _ => rfl) rfl (0, 0) hlt
      exact .inl ⟨e.symm, (congrArg (fun x => List.all x flat) e).trans (fillS_flat (fun _ => rfl) rfl)⟩
    · simp -dsimp -implicitDefEqProofs (disch := omega) [go_sem, -List.getD_eq_getElem?_getD, ite_yes, hlt]
      obtain rfl : k = l.length := by omega
      refine fin_list [some 0] rfl ?_ (by simp -dsimp -implicitDefEqProofs (disch := omega) [go_sem, -List.getD_eq_getElem?_getD, ite_yes, ht])
      simp -dsimp -implicitDefEqProofs (disch := omega) [go_sem, -List.getD_eq_getElem?_getD, ite_yes]
      exact .inl ⟨fillS_all.symm, by rw [fillS_all]; exact flatMap_flat fun _ => rfl⟩
theorem eqMRS_A (l m : List Rd) (hl : l.length ≤ 1048577) (hm : m.length ≤ 1048577) (c d : Nat) (H : Heap) (t u : Nat) (hS : Sl rdE H t l) (hU : Sl rdE H u m) :
    AFunC Try.prog 21 [.slice (some ⟨t, 0, none⟩) l.length c, .slice (some ⟨u, 0, none⟩) m.length d] H (.bool (decide (l = m))) H := by
  refine AFunC.of_body Try.func21 (by kernel_rfl) rfl (by kernel_rfl) (by simp [Try.ntmps21]) ?_
  have ht := hS.lt
  have hu := hU.lt
  have cs := fun k hk => hS.cells (s := 2) (fun _ => rfl) (0, 0) k hk
  have cu := fun k hk => hU.cells (s := 2) (fun _ => rfl) (0, 0) k hk
  simp only [rdE] at cs cu
  simp -dsimp -implicitDefEqProofs (disch := omega) [go_sem, -List.getD_eq_getElem?_getD, ite_yes]
  refine AIf.of (fun h => ?_) (fun h => ?_)
  · simp -dsimp -implicitDefEqProofs (disch := omega) [go_sem, -List.getD_eq_getElem?_getD, ite_yes]
    have : l ≠ m := by rintro rfl; simp at h
    exact fin_flat0 rfl (by simp [this])
  have hlm : l.length = m.length := by simp at h; omega
  simp -dsimp -implicitDefEqProofs (disch := omega) [go_sem, -List.getD_eq_getElem?_getD, ite_yes]
  refine ALoop.intro (ι := Nat) (fun k => k ≤ l.length ∧ ∀ i, i < k → l.getD i (0, 0) = m.getD i (0, 0)) (fun k => [(0, .slice (some ⟨t, 0, none⟩) l.length c), (1, .slice (some ⟨u, 0, none⟩) m.length d), (5, .int .i64 k)]) (fun _ => H) (fun k => l.length - k) 0 ⟨by omega, fun i hi => by omega⟩ ?_ ?_
  · exact weakS_same (by simp -dsimp -implicitDefEqProofs (disch := omega) [go_sem, -List.getD_eq_getElem?_getD, ite_yes, ht, hu])
  · rintro k ⟨hk, hg⟩
    by_cases hlt : k < l.length
    · have hlt' : k < m.length := by omega
      simp -dsimp -implicitDefEqProofs (disch := omega) [go_sem, -List.getD_eq_getElem?_getD, ite_yes, hlt]
      refine ADraw.quiet (by kernel_rfl) (by kernel_rfl) (by kernel_rfl) ?_
      simp -dsimp -implicitDefEqProofs (disch := omega) [go_sem, -List.getD_eq_getElem?_getD, ite_yes, hlt, hlt', cs, cu]
      refine ACallQ.of (eqMR_A (l.getD k (0, 0)) (m.getD k (0, 0)) _) rfl ?_
      simp -dsimp -implicitDefEqProofs (disch := omega) [go_sem, -List.getD_eq_getElem?_getD, ite_yes, hlt]
      refine AIf.of (fun h1 => ?_) (fun h1 => ?_)
      · simp -dsimp -implicitDefEqProofs (disch := omega) [go_sem, -List.getD_eq_getElem?_getD, ite_yes]
        have : l ≠ m := by rintro rfl; simp at h1
        exact fin_flat0 rfl (by simp [this])
      · simp -dsimp -implicitDefEqProofs (disch := omega) [go_sem, -List.getD_eq_getElem?_getD, ite_yes, hlt, hlt']
        refine LoopEnd.of (k + 1) ⟨by omega, fun i hi => ?_⟩ (by omega) (weakS_same (by simp -dsimp -implicitDefEqProofs (disch := omega) [go_sem, -List.getD_eq_getElem?_getD, ite_yes, ht, hu]))
        rcases Nat.lt_or_ge i k with h' | h'
        · exact hg i h'
        · obtain rfl : i = k := by omega
          simpa using h1
    · simp -dsimp -implicitDefEqProofs (disch := omega) [go_sem, -List.getD_eq_getElem?_getD, ite_yes, hlt]
      obtain rfl : k = l.length := by omega
      have : l = m := by
        apply List.ext_getElem hlm
        intro i h1 h2
        have := hg i h1
        simpa [List.getD, h1, h2] using this
      exact fin_flat0 rfl (by simp [this])
theorem iValidReadings_A (l : List Rd) (hl : l.length ≤ 1048577) (c : Nat) (H : Heap) (t : Nat) (hS : Sl rdE H t l) :
    AFunC Try.prog 44 [.slice (some ⟨t, 0, none⟩) l.length c] H (.bool (good l)) H := by
  refine AFunC.of_body Try.func44 (by kernel_rfl) rfl (by kernel_rfl) (by simp [Try.ntmps44]) ?_
  have ht := hS.lt
  have cs := fun k hk => hS.cells (s := 2) (fun _ => rfl) (0, 0) k hk
  have cs0 := fun k hk => hS.cell (s := 2) (fun _ => rfl) (0, 0) k 0 hk (by omega)
  simp only [Nat.add_zero, rdE] at cs0 cs
  simp -dsimp -implicitDefEqProofs (disch := omega) [go_sem, -List.getD_eq_getElem?_getD, ite_yes]
  refine ALoop.intro (ι := Nat) (fun k => k ≤ l.length ∧ goodTo l k) (fun k => [(0, .slice (some ⟨t, 0, none⟩) l.length c), (5, .slice (some ⟨t, 0, none⟩) l.length c), (6, .int .i64 l.length), (7, .int .i64 k)]) (fun _ => H) (fun k => l.length - k) 0 ⟨by omega, fun i hi => by omega⟩ ?_ ?_
  · exact weakS_same (by simp -dsimp -implicitDefEqProofs (disch := omega) [go_sem, -List.getD_eq_getElem?_getD, ite_yes, ht])
  · rintro k ⟨hk, hg⟩
    by_cases hlt : k < l.length
    · simp -dsimp -implicitDefEqProofs (disch := omega) [go_sem, -List.getD_eq_getElem?_getD, ite_yes, hlt, cs, ht]
      refine ADraw.quiet (by kernel_rfl) (by kernel_rfl) (by kernel_rfl) ?_
      simp -dsimp -implicitDefEqProofs (disch := omega) [go_sem, -List.getD_eq_getElem?_getD, ite_yes, hlt, cs, cs0, ht]
      refine ACallQ.of (isReading_A (l.getD k (0, 0)) _) rfl ?_
      simp -dsimp -implicitDefEqProofs (disch := omega) [go_sem, -List.getD_eq_getElem?_getD, ite_yes, hlt, cs, cs0, ht]
      refine AIf.of (fun h1 => ?_) (fun h1 => ?_)
      · simp -dsimp -implicitDefEqProofs (disch := omega) [go_sem, -List.getD_eq_getElem?_getD, ite_yes, hlt, cs, cs0]
        exact fin_flat rfl (by rw [good_no hlt (.inl (by simpa using h1))])
      · simp -dsimp -implicitDefEqProofs (disch := omega) [go_sem, -List.getD_eq_getElem?_getD, ite_yes, hlt, cs, cs0]
        refine AIf.of (fun h2 => ?_) (fun h2 => ?_)
        · simp at h2
          simp -dsimp -implicitDefEqProofs (disch := omega) [go_sem, -List.getD_eq_getElem?_getD, ite_yes, hlt, cs, cs0, ht]
          refine AIf.of (fun h3 => ?_) (fun h3 => ?_)
          · simp -dsimp -implicitDefEqProofs (disch := omega) [go_sem, -List.getD_eq_getElem?_getD, ite_yes, hlt, cs, cs0]
            exact fin_flat rfl (by rw [good_no hlt (.inr ⟨h2, by simpa using h3⟩)])
          · simp -dsimp -implicitDefEqProofs (disch := omega) [go_sem, -List.getD_eq_getElem?_getD, ite_yes, hlt, cs, cs0]
            exact LoopEnd.of (k + 1) ⟨by omega, hg.next (by simpa using h1) fun _ => by simpa using h3⟩ (by omega) (weakS_drop (by simp -dsimp -implicitDefEqProofs (disch := omega) [go_sem, -List.getD_eq_getElem?_getD, ite_yes, ht]))
        · simp at h2
          simp -dsimp -implicitDefEqProofs (disch := omega) [go_sem, -List.getD_eq_getElem?_getD, ite_yes, hlt, cs, cs0]
          exact LoopEnd.of (k + 1) ⟨by omega, hg.next (by simpa using h1) fun h => by omega⟩ (by omega) (weakS_drop (by simp -dsimp -implicitDefEqProofs (disch := omega) [go_sem, -List.getD_eq_getElem?_getD, ite_yes, ht]))
    · simp -dsimp -implicitDefEqProofs (disch := omega) [go_sem, -List.getD_eq_getElem?_getD, ite_yes, hlt]
      obtain rfl : k = l.length := by omega
      exact fin_flat0 rfl (by rw [good_end hg])
end Go.Proofs.Ytnocfipolefnaaa
