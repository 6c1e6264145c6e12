/- Helpers of the laws on Sample. -/
import Derived.Test.YtjipihgcbanenaaFacts
import Derived.Test.YtjipihgcbanenaaAm14
namespace Go.Proofs.Ytjipihgcbanenaa
open Go.Am
set_option linter.unusedVariables false
set_option linter.unusedSimpArgs false
set_option maxRecDepth 100000

abbrev Sp := Int × Int × Int × Int
def spE (r : Sp) : List Value := [.int .i64 (r.1), .int .i64 (r.2.1), .int .i64 (r.2.2.1), .int .i64 (r.2.2.2)]
theorem spE_flat (l : List Sp) : (l.flatMap spE).all flat = true := flatMap_flat fun _ => rfl
theorem spE_length (l : List Sp) : (l.flatMap spE).length = l.length * 4 := flatMap_length spE 4 (fun _ => rfl) l
/-- the marks that a law writes into a list -/
def marksSp (k0 : Int) (n : Nat) : List Sp := (List.range n).map fun (i : Nat) => (k0 + 4 * (i : Int) + 0, k0 + 4 * (i : Int) + 1, k0 + 4 * (i : Int) + 2, k0 + 4 * (i : Int) + 3)
theorem marksSp_length (k0 : Int) (n : Nat) : (marksSp k0 n).length = n := by simp [marksSp]
theorem marksSp_getD (k0 : Int) (n : Nat) {k : Nat} (h : k < n) : (marksSp k0 n).getD k (0, 0, 0, 0) = (k0 + 4 * (k : Int) + 0, k0 + 4 * (k : Int) + 1, k0 + 4 * (k : Int) + 2, k0 + 4 * (k : Int) + 3) := by simp [marksSp, List.getD, h]
def szSp (n left : Int) : Int := if left - n < 0 then -1 else left - n
theorem szSp_A (n c : Nat) (hn : (n : Int) ≤ 9223372036854775807) (left : Int) (h0 : 0 ≤ left) (h1 : left ≤ 9223372036854775807) (t : Nat) (H : Heap) : AFunC Try.prog 6 [.slice (some ⟨t, 0, none⟩) n c, .int .i64 left] H (.int .i64 (szSp n left)) H := by
  refine AFunC.of_body Try.func6 (by kernel_rfl) rfl (by kernel_rfl) (by simp [Try.ntmps6]) ?_
  simp -dsimp -implicitDefEqProofs (disch := omega) [go_sem, -List.getD_eq_getElem?_getD, ite_yes]
  refine AIf.of (fun h => ?_) (fun h => ?_)
  · simp -dsimp -implicitDefEqProofs (disch := omega) [go_sem, -List.getD_eq_getElem?_getD, ite_yes]
    exact fin_flat0 rfl (by simp at h; simp [szSp, h])
  · simp -dsimp -implicitDefEqProofs (disch := omega) [go_sem, -List.getD_eq_getElem?_getD, ite_yes]
    exact fin_flat0 rfl (by simp at h; simp [szSp]; omega)
theorem szSp_len {l : List Sp} {n : Int} (h : ¬ szSp l.length n < 0) : (l.length : Int) ≤ n := by
  unfold szSp at h
  split at h <;> omega
theorem szSp_rng {n : Nat} {left : Int} (h : ¬ szSp n left < 0) (h2 : left ≤ 1048576) : 0 ≤ szSp n left ∧ szSp n left ≤ 1048576 := by
  unfold szSp at h ⊢
  split at h <;> split <;> omega
theorem toSp_A (r : Sp) (H : Heap) : AFunC Try.prog 25 [.agg #[.int .i64 (r.1), .int .i64 (r.2.1), .int .i64 (r.2.2.1), .int .i64 (r.2.2.2)]] H (.agg #[.int .i64 (r.1), .int .i64 (r.2.1), .int .i64 (r.2.2.1), .int .i64 (r.2.2.2)]) H := by
  refine AFunC.of_body Try.func25 (by kernel_rfl) rfl (by kernel_rfl) (by simp [Try.ntmps25]) ?_
  simp -dsimp -implicitDefEqProofs (disch := omega) [go_sem, -List.getD_eq_getElem?_getD, ite_yes]
  exact fin_flat rfl rfl
theorem eqSp_A (a b : Sp) (H : Heap) : AFunC Try.prog 29 [.agg #[.int .i64 (a.1), .int .i64 (a.2.1), .int .i64 (a.2.2.1), .int .i64 (a.2.2.2)], .agg #[.int .i64 (b.1), .int .i64 (b.2.1), .int .i64 (b.2.2.1), .int .i64 (b.2.2.2)]] H (.bool (decide (a = b))) H := by
  refine AFunC.of_body Try.func29 (by kernel_rfl) rfl (by kernel_rfl) (by simp [Try.ntmps29]) ?_
  simp -dsimp -implicitDefEqProofs (disch := omega) [go_sem, -List.getD_eq_getElem?_getD, ite_yes]
  refine AIf.of (fun h0 => ?_) (fun h0 => ?_)
  · simp -dsimp -implicitDefEqProofs (disch := omega) [go_sem, -List.getD_eq_getElem?_getD, ite_yes]
    exact fin_flat rfl (by simp at h0; simp [Prod.ext_iff, h0])
  · have h0 := h0
    simp -dsimp -implicitDefEqProofs (disch := omega) [go_sem, -List.getD_eq_getElem?_getD, ite_yes]
    refine AIf.of (fun h1 => ?_) (fun h1 => ?_)
    · simp -dsimp -implicitDefEqProofs (disch := omega) [go_sem, -List.getD_eq_getElem?_getD, ite_yes]
      exact fin_flat rfl (by simp at h0 h1; simp [Prod.ext_iff, h0, h1])
    · have h1 := h1
      simp -dsimp -implicitDefEqProofs (disch := omega) [go_sem, -List.getD_eq_getElem?_getD, ite_yes]
      refine AIf.of (fun h2 => ?_) (fun h2 => ?_)
      · simp -dsimp -implicitDefEqProofs (disch := omega) [go_sem, -List.getD_eq_getElem?_getD, ite_yes]
        exact fin_flat rfl (by simp at h0 h1 h2; simp [Prod.ext_iff, h0, h1, h2])
      · have h2 := h2
        simp -dsimp -implicitDefEqProofs (disch := omega) [go_sem, -List.getD_eq_getElem?_getD, ite_yes]
        refine AIf.of (fun h3 => ?_) (fun h3 => ?_)
        · simp -dsimp -implicitDefEqProofs (disch := omega) [go_sem, -List.getD_eq_getElem?_getD, ite_yes]
          exact fin_flat rfl (by simp at h0 h1 h2 h3; simp [Prod.ext_iff, h0, h1, h2, h3])
        · have h3 := h3
          simp -dsimp -implicitDefEqProofs (disch := omega) [go_sem, -List.getD_eq_getElem?_getD, ite_yes]
          exact fin_flat rfl (by simp at h0 h1 h2 h3; simp [Prod.ext_iff, h0, h1, h2, h3])
theorem toSpS_A (l : List Sp) (hl : l.length ≤ 1048577) (c : Nat) (H : Heap) (t : Nat) (hS : Sl spE H t l) :
    AFunC Try.prog 8 [.slice (some ⟨t, 0, none⟩) l.length c] H (.slice (some ⟨H.length, 0, none⟩) l.length l.length) (H ++ [some ⟨l.flatMap spE, true, 47, 4⟩]) := by
  refine AFunC.of_body Try.func8 (by kernel_rfl) rfl (by kernel_rfl) (by simp [Try.ntmps8]) ?_
  have ht := hS.lt
  have cs := fun k hk => hS.cells (s := 4) (fun _ => rfl) (0, 0, 0, 0) k hk
  try simp only [spE] at cs
  simp -dsimp -implicitDefEqProofs (disch := omega) [go_sem, -List.getD_eq_getElem?_getD, ite_yes]
  refine ⟨by omega, ?_⟩
  refine ALoop.intro (ι := Nat) (fun k => k ≤ l.length) (fun k => [(0, .slice (some ⟨t, 0, none⟩) l.length c), (3, .slice (some ⟨H.length, 0, none⟩) l.length l.length), (4, .int .i64 k)]) (fun k => H ++ [some ⟨fillS spE [.int .i64 0, .int .i64 0, .int .i64 0, .int .i64 0] l k, true, 47, 4⟩]) (fun k => l.length - k) 0 (by omega) ?_ ?_
  · refine weakS_mk [some 0] rfl ?_ (by simp -dsimp -implicitDefEqProofs (disch := omega) [go_sem, -List.getD_eq_getElem?_getD, ite_yes, ht])
    simp -dsimp -implicitDefEqProofs (disch := omega) [go_sem, -List.getD_eq_getElem?_getD, ite_yes]
    exact .inl ⟨fillS_zero, by simp [flat]⟩
  · intro k hk
    have hfl := fillS_length (f := spE) (s := 4) (zs := [.int .i64 0, .int .i64 0, .int .i64 0, .int .i64 0]) (fun _ => rfl) rfl hk
    by_cases hlt : k < l.length
    · simp -dsimp -implicitDefEqProofs (disch := omega) [go_sem, -List.getD_eq_getElem?_getD, ite_yes, hlt, cs, ht]
      refine ACall.of (toSp_A (l.getD k (0, 0, 0, 0)) _) ?_
      simp -dsimp -implicitDefEqProofs (disch := omega) [go_sem, -List.getD_eq_getElem?_getD, ite_yes, hlt, cs, ht, hfl]
      refine LoopEnd.of (k + 1) (by omega) (by omega) (weakS_mk [some 0] rfl ?_ (by simp -dsimp -implicitDefEqProofs (disch := omega) [go_sem, -List.getD_eq_getElem?_getD, ite_yes, ht]))
      simp -dsimp -implicitDefEqProofs (disch := omega) [go_sem, -List.getD_eq_getElem?_getD, ite_yes, ht]
      have e := fillS_set (f := spE) (s := 4) (zs := [.int .i64 0, .int .i64 0, .int .i64 0, .int .i64 0]) (fun _ => rfl) rfl (0, 0, 0, 0) hlt
      skip
      exact .inl ⟨e.symm, (congrArg (fun x => List.all x flat) e).trans (fillS_flat (fun _ => rfl) rfl)⟩
    · simp -dsimp -implicitDefEqProofs (disch := omega) [go_sem, -List.getD_eq_getElem?_getD, ite_yes, hlt]
      obtain rfl : k = l.length := by omega
      refine fin_list [some 0] rfl ?_ (by simp -dsimp -implicitDefEqProofs (disch := omega) [go_sem, -List.getD_eq_getElem?_getD, ite_yes, ht])
      simp -dsimp -implicitDefEqProofs (disch := omega) [go_sem, -List.getD_eq_getElem?_getD, ite_yes]
      exact .inl ⟨fillS_all.symm, by rw [fillS_all]; exact flatMap_flat fun _ => rfl⟩
theorem eqSpS_A (l m : List Sp) (hl : l.length ≤ 1048577) (hm : m.length ≤ 1048577) (c d : Nat) (H : Heap) (t u : Nat) (hS : Sl spE H t l) (hU : Sl spE H u m) :
    AFunC Try.prog 10 [.slice (some ⟨t, 0, none⟩) l.length c, .slice (some ⟨u, 0, none⟩) m.length d] H (.bool (decide (l = m))) H := by
  refine AFunC.of_body Try.func10 (by kernel_rfl) rfl (by kernel_rfl) (by simp [Try.ntmps10]) ?_
  have ht := hS.lt
  have hu := hU.lt
  have cs := fun k hk => hS.cells (s := 4) (fun _ => rfl) (0, 0, 0, 0) k hk
  have cu := fun k hk => hU.cells (s := 4) (fun _ => rfl) (0, 0, 0, 0) k hk
  try simp only [spE] at cs cu
  simp -dsimp -implicitDefEqProofs (disch := omega) [go_sem, -List.getD_eq_getElem?_getD, ite_yes]
  refine AIf.of (fun h => ?_) (fun h => ?_)
  · simp -dsimp -implicitDefEqProofs (disch := omega) [go_sem, -List.getD_eq_getElem?_getD, ite_yes]
    have : l ≠ m := by rintro rfl; simp at h
    exact fin_flat0 rfl (by simp [this])
  have hlm : l.length = m.length := by simp at h; omega
  simp -dsimp -implicitDefEqProofs (disch := omega) [go_sem, -List.getD_eq_getElem?_getD, ite_yes]
  refine ALoop.intro (ι := Nat) (fun k => k ≤ l.length ∧ ∀ i, i < k → l.getD i (0, 0, 0, 0) = m.getD i (0, 0, 0, 0)) (fun k => [(0, .slice (some ⟨t, 0, none⟩) l.length c), (1, .slice (some ⟨u, 0, none⟩) m.length d), (5, .int .i64 k)]) (fun _ => H) (fun k => l.length - k) 0 ⟨by omega, fun i hi => by omega⟩ ?_ ?_
  · exact weakS_same (by simp -dsimp -implicitDefEqProofs (disch := omega) [go_sem, -List.getD_eq_getElem?_getD, ite_yes, ht, hu])
  · rintro k ⟨hk, hg⟩
    by_cases hlt : k < l.length
    · have hlt' : k < m.length := by omega
      simp -dsimp -implicitDefEqProofs (disch := omega) [go_sem, -List.getD_eq_getElem?_getD, ite_yes, hlt]
      refine ADraw.quiet (by kernel_rfl) (by kernel_rfl) (by kernel_rfl) ?_
      simp -dsimp -implicitDefEqProofs (disch := omega) [go_sem, -List.getD_eq_getElem?_getD, ite_yes, hlt, hlt', cs, cu]
      refine ACallQ.of (eqSp_A (l.getD k (0, 0, 0, 0)) (m.getD k (0, 0, 0, 0)) _) rfl ?_
      simp -dsimp -implicitDefEqProofs (disch := omega) [go_sem, -List.getD_eq_getElem?_getD, ite_yes, hlt]
      refine AIf.of (fun h1 => ?_) (fun h1 => ?_)
      · simp -dsimp -implicitDefEqProofs (disch := omega) [go_sem, -List.getD_eq_getElem?_getD, ite_yes]
        have : l ≠ m := by rintro rfl; simp at h1
        exact fin_flat0 rfl (by simp [this])
      · simp -dsimp -implicitDefEqProofs (disch := omega) [go_sem, -List.getD_eq_getElem?_getD, ite_yes, hlt, hlt']
        refine LoopEnd.of (k + 1) ⟨by omega, fun i hi => ?_⟩ (by omega) (weakS_same (by simp -dsimp -implicitDefEqProofs (disch := omega) [go_sem, -List.getD_eq_getElem?_getD, ite_yes, ht, hu]))
        rcases Nat.lt_or_ge i k with h' | h'
        · exact hg i h'
        · obtain rfl : i = k := by omega
          simpa using h1
    · simp -dsimp -implicitDefEqProofs (disch := omega) [go_sem, -List.getD_eq_getElem?_getD, ite_yes, hlt]
      obtain rfl : k = l.length := by omega
      have : l = m := by
        apply List.ext_getElem hlm
        intro i h1 h2
        have := hg i h1
        simpa [List.getD, h1, h2] using this
      exact fin_flat0 rfl (by simp [this])
theorem eqSpS_nil (d u : Nat) (H : Heap) : AFunC Try.prog 10 [.slice none 0 0, .slice (some ⟨u, 0, none⟩) 0 d] H (.bool true) H := by
  refine AFunC.of_body Try.func10 (by kernel_rfl) rfl (by kernel_rfl) (by simp [Try.ntmps10]) ?_
  simp -dsimp -implicitDefEqProofs (disch := omega) [go_sem, -List.getD_eq_getElem?_getD, ite_yes]
  refine ALoop.intro (ι := Unit) (fun _ => True) (fun _ => [(0, .slice none 0 0), (5, .int .i64 0)]) (fun _ => H) (fun _ => 0) () trivial ?_ ?_
  · exact weakS_same (by simp -dsimp -implicitDefEqProofs (disch := omega) [go_sem, -List.getD_eq_getElem?_getD, ite_yes])
  · intro _ _
    simp -dsimp -implicitDefEqProofs (disch := omega) [go_sem, -List.getD_eq_getElem?_getD, ite_yes]
    exact fin_flat0 rfl rfl
end Go.Proofs.Ytjipihgcbanenaa
