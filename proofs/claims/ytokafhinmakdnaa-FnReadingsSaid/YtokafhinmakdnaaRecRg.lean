/- Helpers of the laws on Reading. -/
import Derived.Test.YtokafhinmakdnaaFacts
import Derived.Test.YtokafhinmakdnaaAm14
namespace Go.Proofs.Ytokafhinmakdnaa
open Go.Am
set_option linter.unusedVariables false
set_option linter.unusedSimpArgs false
set_option maxRecDepth 100000

abbrev Rg := Int × Int × Int
def rgE (r : Rg) : List Value := [.int .i64 (r.1), .int .i64 (r.2.1), .int .i64 (r.2.2)]
theorem rgE_flat (l : List Rg) : (l.flatMap rgE).all flat = true := flatMap_flat fun _ => rfl
theorem rgE_length (l : List Rg) : (l.flatMap rgE).length = l.length * 3 := flatMap_length rgE 3 (fun _ => rfl) l
/-- the marks that a law writes into a list -/
def marksRg (k0 : Int) (n : Nat) : List Rg := (List.range n).map fun (i : Nat) => (k0 + 3 * (i : Int) + 0, k0 + 3 * (i : Int) + 1, k0 + 3 * (i : Int) + 2)
theorem marksRg_length (k0 : Int) (n : Nat) : (marksRg k0 n).length = n := by simp [marksRg]
theorem marksRg_getD (k0 : Int) (n : Nat) {k : Nat} (h : k < n) : (marksRg k0 n).getD k (0, 0, 0) = (k0 + 3 * (k : Int) + 0, k0 + 3 * (k : Int) + 1, k0 + 3 * (k : Int) + 2) := by simp [marksRg, List.getD, h]
def szRg (n left : Int) : Int := if left - n < 0 then -1 else left - n
theorem szRg_A (n c : Nat) (hn : (n : Int) ≤ 9223372036854775807) (left : Int) (h0 : 0 ≤ left) (h1 : left ≤ 9223372036854775807) (t : Nat) (H : Heap) : AFunC Try.prog 18 [.slice (some ⟨t, 0, none⟩) n c, .int .i64 left] H (.int .i64 (szRg n left)) H := by
  refine AFunC.of_body Try.func18 (by kernel_rfl) rfl (by kernel_rfl) (by simp [Try.ntmps18]) ?_
  simp -dsimp -implicitDefEqProofs (disch := omega) [go_sem, -List.getD_eq_getElem?_getD, ite_yes]
  refine AIf.of (fun h => ?_) (fun h => ?_)
  · simp -dsimp -implicitDefEqProofs (disch := omega) [go_sem, -List.getD_eq_getElem?_getD, ite_yes]
    exact fin_flat0 rfl (by simp at h; simp [szRg, h])
  · simp -dsimp -implicitDefEqProofs (disch := omega) [go_sem, -List.getD_eq_getElem?_getD, ite_yes]
    exact fin_flat0 rfl (by simp at h; simp [szRg]; omega)
theorem szRg_len {l : List Rg} {n : Int} (h : ¬ szRg l.length n < 0) : (l.length : Int) ≤ n := by
  unfold szRg at h
  split at h <;> omega
theorem szRg_rng {n : Nat} {left : Int} (h : ¬ szRg n left < 0) (h2 : left ≤ 1048576) : 0 ≤ szRg n left ∧ szRg n left ≤ 1048576 := by
  unfold szRg at h ⊢
  split at h <;> split <;> omega
theorem toRg_A (r : Rg) (H : Heap) : AFunC Try.prog 11 [.agg #[.int .i64 (r.1), .int .i64 (r.2.1), .int .i64 (r.2.2)]] H (.agg #[.int .i64 (r.1), .int .i64 (r.2.1), .int .i64 (r.2.2)]) H := by
  refine AFunC.of_body Try.func11 (by kernel_rfl) rfl (by kernel_rfl) (by simp [Try.ntmps11]) ?_
  simp -dsimp -implicitDefEqProofs (disch := omega) [go_sem, -List.getD_eq_getElem?_getD, ite_yes]
  exact fin_flat rfl rfl
theorem eqRg_A (a b : Rg) (H : Heap) : AFunC Try.prog 51 [.agg #[.int .i64 (a.1), .int .i64 (a.2.1), .int .i64 (a.2.2)], .agg #[.int .i64 (b.1), .int .i64 (b.2.1), .int .i64 (b.2.2)]] H (.bool (decide (a = b))) H := by
  refine AFunC.of_body Try.func51 (by kernel_rfl) rfl (by kernel_rfl) (by simp [Try.ntmps51]) ?_
  simp -dsimp -implicitDefEqProofs (disch := omega) [go_sem, -List.getD_eq_getElem?_getD, ite_yes]
  refine AIf.of (fun h0 => ?_) (fun h0 => ?_)
  · simp -dsimp -implicitDefEqProofs (disch := omega) [go_sem, -List.getD_eq_getElem?_getD, ite_yes]
    exact fin_flat rfl (by simp at h0; simp [Prod.ext_iff, h0])
  · have h0 := h0
    simp -dsimp -implicitDefEqProofs (disch := omega) [go_sem, -List.getD_eq_getElem?_getD, ite_yes]
    refine AIf.of (fun h1 => ?_) (fun h1 => ?_)
    · simp -dsimp -implicitDefEqProofs (disch := omega) [go_sem, -List.getD_eq_getElem?_getD, ite_yes]
      exact fin_flat rfl (by simp at h0 h1; simp [Prod.ext_iff, h0, h1])
    · have h1 := h1
      simp -dsimp -implicitDefEqProofs (disch := omega) [go_sem, -List.getD_eq_getElem?_getD, ite_yes]
      refine AIf.of (fun h2 => ?_) (fun h2 => ?_)
      · simp -dsimp -implicitDefEqProofs (disch := omega) [go_sem, -List.getD_eq_getElem?_getD, ite_yes]
        exact fin_flat rfl (by simp at h0 h1 h2; simp [Prod.ext_iff, h0, h1, h2])
      · have h2 := h2
        simp -dsimp -implicitDefEqProofs (disch := omega) [go_sem, -List.getD_eq_getElem?_getD, ite_yes]
        exact fin_flat rfl (by simp at h0 h1 h2; simp [Prod.ext_iff, h0, h1, h2])
theorem toRgS_A (l : List Rg) (hl : l.length ≤ 1048577) (c : Nat) (H : Heap) (t : Nat) (hS : Sl rgE H t l) :
    AFunC Try.prog 20 [.slice (some ⟨t, 0, none⟩) l.length c] H (.slice (some ⟨H.length, 0, none⟩) l.length l.length) (H ++ [some ⟨l.flatMap rgE, true, 34, 3⟩]) := by
  refine AFunC.of_body Try.func20 (by kernel_rfl) rfl (by kernel_rfl) (by simp [Try.ntmps20]) ?_
  have ht := hS.lt
  have cs := fun k hk => hS.cells (s := 3) (fun _ => rfl) (0, 0, 0) k hk
  try simp only [rgE] at cs
  simp -dsimp -implicitDefEqProofs (disch := omega) [go_sem, -List.getD_eq_getElem?_getD, ite_yes]
  refine ⟨by omega, ?_⟩
  refine ALoop.intro (ι := Nat) (fun k => k ≤ l.length) (fun k => [(0, .slice (some ⟨t, 0, none⟩) l.length c), (3, .slice (some ⟨H.length, 0, none⟩) l.length l.length), (4, .int .i64 k)]) (fun k => H ++ [some ⟨fillS rgE [.int .i64 0, .int .i64 0, .int .i64 0] l k, true, 34, 3⟩]) (fun k => l.length - k) 0 (by omega) ?_ ?_
  · refine weakS_mk [some 0] rfl ?_ (by simp -dsimp -implicitDefEqProofs (disch := omega) [go_sem, -List.getD_eq_getElem?_getD, ite_yes, ht])
    simp -dsimp -implicitDefEqProofs (disch := omega) [go_sem, -List.getD_eq_getElem?_getD, ite_yes]
    exact .inl ⟨fillS_zero, by simp [flat]⟩
  · intro k hk
    have hfl := fillS_length (f := rgE) (s := 3) (zs := [.int .i64 0, .int .i64 0, .int .i64 0]) (fun _ => rfl) rfl hk
    by_cases hlt : k < l.length
    · simp -dsimp -implicitDefEqProofs (disch := omega) [go_sem, -List.getD_eq_getElem?_getD, ite_yes, hlt, cs, ht]
      refine ACall.of (toRg_A (l.getD k (0, 0, 0)) _) ?_
      simp -dsimp -implicitDefEqProofs (disch := omega) [go_sem, -List.getD_eq_getElem?_getD, ite_yes, hlt, cs, ht, hfl]
      refine LoopEnd.of (k + 1) (by omega) (by omega) (weakS_mk [some 0] rfl ?_ (by simp -dsimp -implicitDefEqProofs (disch := omega) [go_sem, -List.getD_eq_getElem?_getD, ite_yes, ht]))
      simp -dsimp -implicitDefEqProofs (disch := omega) [go_sem, -List.getD_eq_getElem?_getD, ite_yes, ht]
      have e := fillS_set (f := rgE) (s := 3) (zs := [.int .i64 0, .int .i64 0, .int .i64 0]) (fun _ => rfl) rfl (0, 0, 0) hlt
      skip
      exact .inl ⟨e.symm, (congrArg (fun x => List.all x flat) e).trans (fillS_flat (fun _ => rfl) rfl)⟩
    · simp -dsimp -implicitDefEqProofs (disch := omega) [go_sem, -List.getD_eq_getElem?_getD, ite_yes, hlt]
      obtain rfl : k = l.length := by omega
      refine fin_list [some 0] rfl ?_ (by simp -dsimp -implicitDefEqProofs (disch := omega) [go_sem, -List.getD_eq_getElem?_getD, ite_yes, ht])
      simp -dsimp -implicitDefEqProofs (disch := omega) [go_sem, -List.getD_eq_getElem?_getD, ite_yes]
      exact .inl ⟨fillS_all.symm, by rw [fillS_all]; exact flatMap_flat fun _ => rfl⟩
theorem eqRgS_A (l m : List Rg) (hl : l.length ≤ 1048577) (hm : m.length ≤ 1048577) (c d : Nat) (H : Heap) (t u : Nat) (hS : Sl rgE H t l) (hU : Sl rgE H u m) :
    AFunC Try.prog 22 [.slice (some ⟨t, 0, none⟩) l.length c, .slice (some ⟨u, 0, none⟩) m.length d] H (.bool (decide (l = m))) H := by
  refine AFunC.of_body Try.func22 (by kernel_rfl) rfl (by kernel_rfl) (by simp [Try.ntmps22]) ?_
  have ht := hS.lt
  have hu := hU.lt
  have cs := fun k hk => hS.cells (s := 3) (fun _ => rfl) (0, 0, 0) k hk
  have cu := fun k hk => hU.cells (s := 3) (fun _ => rfl) (0, 0, 0) k hk
  try simp only [rgE] at cs cu
  simp -dsimp -implicitDefEqProofs (disch := omega) [go_sem, -List.getD_eq_getElem?_getD, ite_yes]
  refine AIf.of (fun h => ?_) (fun h => ?_)
  · simp -dsimp -implicitDefEqProofs (disch := omega) [go_sem, -List.getD_eq_getElem?_getD, ite_yes]
    have : l ≠ m := by rintro rfl; simp at h
    exact fin_flat0 rfl (by simp [this])
  have hlm : l.length = m.length := by simp at h; omega
  simp -dsimp -implicitDefEqProofs (disch := omega) [go_sem, -List.getD_eq_getElem?_getD, ite_yes]
  refine ALoop.intro (ι := Nat) (fun k => k ≤ l.length ∧ ∀ i, i < k → l.getD i (0, 0, 0) = m.getD i (0, 0, 0)) (fun k => [(0, .slice (some ⟨t, 0, none⟩) l.length c), (1, .slice (some ⟨u, 0, none⟩) m.length d), (5, .int .i64 k)]) (fun _ => H) (fun k => l.length - k) 0 ⟨by omega, fun i hi => by omega⟩ ?_ ?_
  · exact weakS_same (by simp -dsimp -implicitDefEqProofs (disch := omega) [go_sem, -List.getD_eq_getElem?_getD, ite_yes, ht, hu])
  · rintro k ⟨hk, hg⟩
    by_cases hlt : k < l.length
    · have hlt' : k < m.length := by omega
      simp -dsimp -implicitDefEqProofs (disch := omega) [go_sem, -List.getD_eq_getElem?_getD, ite_yes, hlt]
      refine ADraw.quiet (by kernel_rfl) (by kernel_rfl) (by kernel_rfl) ?_
      simp -dsimp -implicitDefEqProofs (disch := omega) [go_sem, -List.getD_eq_getElem?_getD, ite_yes, hlt, hlt', cs, cu]
      refine ACallQ.of (eqRg_A (l.getD k (0, 0, 0)) (m.getD k (0, 0, 0)) _) rfl ?_
      simp -dsimp -implicitDefEqProofs (disch := omega) [go_sem, -List.getD_eq_getElem?_getD, ite_yes, hlt]
      refine AIf.of (fun h1 => ?_) (fun h1 => ?_)
      · simp -dsimp -implicitDefEqProofs (disch := omega) [go_sem, -List.getD_eq_getElem?_getD, ite_yes]
        have : l ≠ m := by rintro rfl; simp at h1
        exact fin_flat0 rfl (by simp [this])
      · simp -dsimp -implicitDefEqProofs (disch := omega) [go_sem, -List.getD_eq_getElem?_getD, ite_yes, hlt, hlt']
        refine LoopEnd.of (k + 1) ⟨by omega, fun i hi => ?_⟩ (by omega) (weakS_same (by simp -dsimp -implicitDefEqProofs (disch := omega) [go_sem, -List.getD_eq_getElem?_getD, ite_yes, ht, hu]))
        rcases Nat.lt_or_ge i k with h' | h'
        · exact hg i h'
        · obtain rfl : i = k := by omega
          simpa using h1
    · simp -dsimp -implicitDefEqProofs (disch := omega) [go_sem, -List.getD_eq_getElem?_getD, ite_yes, hlt]
      obtain rfl : k = l.length := by omega
      have : l = m := by
        apply List.ext_getElem hlm
        intro i h1 h2
        have := hg i h1
        simpa [List.getD, h1, h2] using this
      exact fin_flat0 rfl (by simp [this])
theorem eqRgS_nil (d u : Nat) (H : Heap) : AFunC Try.prog 22 [.slice none 0 0, .slice (some ⟨u, 0, none⟩) 0 d] H (.bool true) H := by
  refine AFunC.of_body Try.func22 (by kernel_rfl) rfl (by kernel_rfl) (by simp [Try.ntmps22]) ?_
  simp -dsimp -implicitDefEqProofs (disch := omega) [go_sem, -List.getD_eq_getElem?_getD, ite_yes]
  refine ALoop.intro (ι := Unit) (fun _ => True) (fun _ => [(0, .slice none 0 0), (5, .int .i64 0)]) (fun _ => H) (fun _ => 0) () trivial ?_ ?_
  · exact weakS_same (by simp -dsimp -implicitDefEqProofs (disch := omega) [go_sem, -List.getD_eq_getElem?_getD, ite_yes])
  · intro _ _
    simp -dsimp -implicitDefEqProofs (disch := omega) [go_sem, -List.getD_eq_getElem?_getD, ite_yes]
    exact fin_flat0 rfl rfl
theorem markRg_step {l : List Rg} {k0 : Int} {k : Nat} (hlt : k < l.length) : (((((mixL l (marksRg k0 l.length) k).flatMap rgE).set (k * 3) (.int .i64 (k0 + 3 * (k : Int) + 0))).set (k * 3 + 1) (.int .i64 (k0 + 3 * (k : Int) + 1))).set (k * 3 + 2) (.int .i64 (k0 + 3 * (k : Int) + 2))) = (mixL l (marksRg k0 l.length) (k + 1)).flatMap rgE := by
  have h1 := mixL_next (l := l) (m := marksRg k0 l.length) (marksRg_length _ _) (0, 0, 0) hlt
  have h2 := set_parts (f := rgE) (l := mixL l (marksRg k0 l.length) k) (s := 3) (fun _ => rfl) ((marksRg k0 l.length).getD k (0, 0, 0)) (by rw [mixL_length (marksRg_length _ _) (by omega)]; exact hlt)
  rw [h1, marksRg_getD _ _ hlt] at h2
  rw [← h2]
  simp [aSetL, rgE, Nat.add_assoc]
theorem markRgS_A (l : List Rg) (hl : l.length ≤ 1048577) (c e : Nat) (k0 : Int) (h0 : 0 ≤ k0) (h1 : k0 ≤ 100000000) (H : Heap) (t : Nat) (hb : H.get t = some ⟨l.flatMap rgE, true, e, 3⟩) :
    AFunC Try.prog 23 [.slice (some ⟨t, 0, none⟩) l.length c, .int .i64 k0] H (.int .i64 (k0 + 3 * l.length)) (H.set t (some ⟨(marksRg k0 l.length).flatMap rgE, true, e, 3⟩)) := by
  refine AFunC.of_body Try.func23 (by kernel_rfl) rfl (by kernel_rfl) (by simp [Try.ntmps23]) ?_
  have ht := Heap.get_lt hb
  simp -dsimp -implicitDefEqProofs (disch := omega) [go_sem, -List.getD_eq_getElem?_getD, ite_yes]
  refine ALoop.intro (ι := Nat) (fun k => k ≤ l.length) (fun k => [(0, .slice (some ⟨t, 0, none⟩) l.length c), (1, .int .i64 (k0 + 3 * (k : Int))), (5, .int .i64 k)]) (fun k => H.set t (some ⟨(mixL l (marksRg k0 l.length) k).flatMap rgE, true, e, 3⟩)) (fun k => l.length - k) 0 (by omega) ?_ ?_
  · exact weakS_set ht (rgE_flat _) rfl (by rw [mixL_zero]; exact (Heap.set_self hb).symm) (by simp -dsimp -implicitDefEqProofs (disch := omega) [go_sem, -List.getD_eq_getElem?_getD, ite_yes, ht])
  · intro k hk
    have gs := fun x => Heap.get_set_self (H := H) ht (x := x)
    have bs := fun x => (by unfold blkSz; rw [gs x]; cases x <;> rfl : blkSz (H.set t x) t = x.map (·.sz))
    have hml := mixL_length (l := l) (m := marksRg k0 l.length) (marksRg_length _ _) hk
    have hfl : ((mixL l (marksRg k0 l.length) k).flatMap rgE).length = l.length * 3 := by rw [rgE_length, hml]
    by_cases hlt : k < l.length
    · have st := markRg_step (k0 := k0) hlt
      simp -dsimp -implicitDefEqProofs (disch := omega) [go_sem, -List.getD_eq_getElem?_getD, ite_yes, hlt, ht, gs, bs, hfl, List.set_set, List.length_set]
      refine LoopEnd.of (k + 1) (by omega) (by omega) (weakS_set ht (rgE_flat (mixL l (marksRg k0 l.length) (k + 1))) rfl (by rw [← st]; simp [Int.add_assoc]) (by simp -dsimp -implicitDefEqProofs (disch := omega) [go_sem, -List.getD_eq_getElem?_getD, ite_yes, ht] <;> omega))
    · simp -dsimp -implicitDefEqProofs (disch := omega) [go_sem, -List.getD_eq_getElem?_getD, ite_yes, hlt]
      obtain rfl : k = l.length := by omega
      exact fin_set ht (rgE_flat (marksRg k0 l.length)) rfl (by rw [mixL_all (marksRg_length _ _)]) rfl (by simp)
theorem markRgS_nil (k0 : Int) (H : Heap) : AFunC Try.prog 23 [.slice none 0 0, .int .i64 k0] H (.int .i64 k0) H := by
  refine AFunC.of_body Try.func23 (by kernel_rfl) rfl (by kernel_rfl) (by simp [Try.ntmps23]) ?_
  simp -dsimp -implicitDefEqProofs (disch := omega) [go_sem, -List.getD_eq_getElem?_getD, ite_yes]
  refine ALoop.intro (ι := Unit) (fun _ => True) (fun _ => [(0, .slice none 0 0), (1, .int .i64 k0), (5, .int .i64 0)]) (fun _ => H) (fun _ => 0) () trivial ?_ ?_
  · exact weakS_same (by simp -dsimp -implicitDefEqProofs (disch := omega) [go_sem, -List.getD_eq_getElem?_getD, ite_yes])
  · intro _ _
    simp -dsimp -implicitDefEqProofs (disch := omega) [go_sem, -List.getD_eq_getElem?_getD, ite_yes]
    exact fin_flat0 rfl rfl
end Go.Proofs.Ytokafhinmakdnaa
