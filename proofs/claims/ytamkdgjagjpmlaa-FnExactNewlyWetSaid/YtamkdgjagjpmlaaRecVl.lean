/- Helpers of the laws on Valve. -/
import Derived.Test.YtamkdgjagjpmlaaFacts
import Derived.Test.YtamkdgjagjpmlaaAm14
namespace Go.Proofs.Ytamkdgjagjpmlaa
open Go.Am
set_option linter.unusedVariables false
set_option linter.unusedSimpArgs false
set_option maxRecDepth 100000

abbrev Vl := Int × Int × Int × Bool
def vlE (r : Vl) : List Value := [.int .i64 (r.1), .int .i64 (r.2.1), .int .i64 (r.2.2.1), .bool (r.2.2.2)]
theorem vlE_flat (l : List Vl) : (l.flatMap vlE).all flat = true := flatMap_flat fun _ => rfl
theorem vlE_length (l : List Vl) : (l.flatMap vlE).length = l.length * 4 := flatMap_length vlE 4 (fun _ => rfl) l
/-- the marks that a law writes into a list -/
def marksVl (k0 : Int) (n : Nat) : List Vl := (List.range n).map fun (i : Nat) => (k0 + 4 * (i : Int) + 0, k0 + 4 * (i : Int) + 1, k0 + 4 * (i : Int) + 2, decide ((k0 + 4 * (i : Int) + 3) % 3 = 0))
theorem marksVl_length (k0 : Int) (n : Nat) : (marksVl k0 n).length = n := by simp [marksVl]
theorem marksVl_getD (k0 : Int) (n : Nat) {k : Nat} (h : k < n) : (marksVl k0 n).getD k (0, 0, 0, false) = (k0 + 4 * (k : Int) + 0, k0 + 4 * (k : Int) + 1, k0 + 4 * (k : Int) + 2, decide ((k0 + 4 * (k : Int) + 3) % 3 = 0)) := by simp [marksVl, List.getD, h]
def szVl (n left : Int) : Int := if left - n < 0 then -1 else left - n
theorem szVl_A (n c : Nat) (hn : (n : Int) ≤ 9223372036854775807) (left : Int) (h0 : 0 ≤ left) (h1 : left ≤ 9223372036854775807) (t : Nat) (H : Heap) : AFunC Try.prog 5 [.slice (some ⟨t, 0, none⟩) n c, .int .i64 left] H (.int .i64 (szVl n left)) H := by
  refine AFunC.of_body Try.func5 (by kernel_rfl) rfl (by kernel_rfl) (by simp [Try.ntmps5]) ?_
  simp -dsimp -implicitDefEqProofs (disch := omega) [go_sem, -List.getD_eq_getElem?_getD, ite_yes]
  refine AIf.of (fun h => ?_) (fun h => ?_)
  · simp -dsimp -implicitDefEqProofs (disch := omega) [go_sem, -List.getD_eq_getElem?_getD, ite_yes]
    exact fin_flat0 rfl (by simp at h; simp [szVl, h])
  · simp -dsimp -implicitDefEqProofs (disch := omega) [go_sem, -List.getD_eq_getElem?_getD, ite_yes]
    exact fin_flat0 rfl (by simp at h; simp [szVl]; omega)
theorem szVl_len {l : List Vl} {n : Int} (h : ¬ szVl l.length n < 0) : (l.length : Int) ≤ n := by
  unfold szVl at h
  split at h <;> omega
theorem szVl_rng {n : Nat} {left : Int} (h : ¬ szVl n left < 0) (h2 : left ≤ 1048576) : 0 ≤ szVl n left ∧ szVl n left ≤ 1048576 := by
  unfold szVl at h ⊢
  split at h <;> split <;> omega
theorem toVl_A (r : Vl) (H : Heap) : AFunC Try.prog 25 [.agg #[.int .i64 (r.1), .int .i64 (r.2.1), .int .i64 (r.2.2.1), .bool (r.2.2.2)]] H (.agg #[.int .i64 (r.1), .int .i64 (r.2.1), .int .i64 (r.2.2.1), .bool (r.2.2.2)]) H := by
  refine AFunC.of_body Try.func25 (by kernel_rfl) rfl (by kernel_rfl) (by simp [Try.ntmps25]) ?_
  simp -dsimp -implicitDefEqProofs (disch := omega) [go_sem, -List.getD_eq_getElem?_getD, ite_yes]
  exact fin_flat rfl rfl
theorem eqVl_A (a b : Vl) (H : Heap) : AFunC Try.prog 30 [.agg #[.int .i64 (a.1), .int .i64 (a.2.1), .int .i64 (a.2.2.1), .bool (a.2.2.2)], .agg #[.int .i64 (b.1), .int .i64 (b.2.1), .int .i64 (b.2.2.1), .bool (b.2.2.2)]] H (.bool (decide (a = b))) H := by
  refine AFunC.of_body Try.func30 (by kernel_rfl) rfl (by kernel_rfl) (by simp [Try.ntmps30]) ?_
  simp -dsimp -implicitDefEqProofs (disch := omega) [go_sem, -List.getD_eq_getElem?_getD, ite_yes]
  refine AIf.of (fun h0 => ?_) (fun h0 => ?_)
  · simp -dsimp -implicitDefEqProofs (disch := omega) [go_sem, -List.getD_eq_getElem?_getD, ite_yes]
    exact fin_flat rfl (by simp at h0; simp [Prod.ext_iff, h0])
  · have h0 := h0
    simp -dsimp -implicitDefEqProofs (disch := omega) [go_sem, -List.getD_eq_getElem?_getD, ite_yes]
    refine AIf.of (fun h1 => ?_) (fun h1 => ?_)
    · simp -dsimp -implicitDefEqProofs (disch := omega) [go_sem, -List.getD_eq_getElem?_getD, ite_yes]
      exact fin_flat rfl (by simp at h0 h1; simp [Prod.ext_iff, h0, h1])
    · have h1 := h1
      simp -dsimp -implicitDefEqProofs (disch := omega) [go_sem, -List.getD_eq_getElem?_getD, ite_yes]
      refine AIf.of (fun h2 => ?_) (fun h2 => ?_)
      · simp -dsimp -implicitDefEqProofs (disch := omega) [go_sem, -List.getD_eq_getElem?_getD, ite_yes]
        exact fin_flat rfl (by simp at h0 h1 h2; simp [Prod.ext_iff, h0, h1, h2])
      · have h2 := h2
        simp -dsimp -implicitDefEqProofs (disch := omega) [go_sem, -List.getD_eq_getElem?_getD, ite_yes]
        refine AIf.of (fun h3 => ?_) (fun h3 => ?_)
        · simp -dsimp -implicitDefEqProofs (disch := omega) [go_sem, -List.getD_eq_getElem?_getD, ite_yes]
          exact fin_flat rfl (by simp at h0 h1 h2 h3; simp [Prod.ext_iff, h0, h1, h2, h3])
        · have h3 := h3
          simp -dsimp -implicitDefEqProofs (disch := omega) [go_sem, -List.getD_eq_getElem?_getD, ite_yes]
          exact fin_flat rfl (by simp at h0 h1 h2 h3; simp [Prod.ext_iff, h0, h1, h2, h3])
theorem toVlS_A (l : List Vl) (hl : l.length ≤ 1048577) (c : Nat) (H : Heap) (t : Nat) (hS : Sl vlE H t l) :
    AFunC Try.prog 8 [.slice (some ⟨t, 0, none⟩) l.length c] H (.slice (some ⟨H.length, 0, none⟩) l.length l.length) (H ++ [some ⟨l.flatMap vlE, true, 54, 4⟩]) := by
  refine AFunC.of_body Try.func8 (by kernel_rfl) rfl (by kernel_rfl) (by simp [Try.ntmps8]) ?_
  have ht := hS.lt
  have cs := fun k hk => hS.cells (s := 4) (fun _ => rfl) (0, 0, 0, false) k hk
  try simp only [vlE] at cs
  simp -dsimp -implicitDefEqProofs (disch := omega) [go_sem, -List.getD_eq_getElem?_getD, ite_yes]
  refine ⟨by omega, ?_⟩
  refine ALoop.intro (ι := Nat) (fun k => k ≤ l.length) (fun k => [(0, .slice (some ⟨t, 0, none⟩) l.length c), (3, .slice (some ⟨H.length, 0, none⟩) l.length l.length), (4, .int .i64 k)]) (fun k => H ++ [some ⟨fillS vlE [.int .i64 0, .int .i64 0, .int .i64 0, .bool false] l k, true, 54, 4⟩]) (fun k => l.length - k) 0 (by omega) ?_ ?_
  · refine weakS_mk [some 0] rfl ?_ (by simp -dsimp -implicitDefEqProofs (disch := omega) [go_sem, -List.getD_eq_getElem?_getD, ite_yes, ht])
    simp -dsimp -implicitDefEqProofs (disch := omega) [go_sem, -List.getD_eq_getElem?_getD, ite_yes]
    exact .inl ⟨fillS_zero, by simp [flat]⟩
  · intro k hk
    have hfl := fillS_length (f := vlE) (s := 4) (zs := [.int .i64 0, .int .i64 0, .int .i64 0, .bool false]) (fun _ => rfl) rfl hk
    by_cases hlt : k < l.length
    · simp -dsimp -implicitDefEqProofs (disch := omega) [go_sem, -List.getD_eq_getElem?_getD, ite_yes, hlt, cs, ht]
      refine ACall.of (toVl_A (l.getD k (0, 0, 0, false)) _) ?_
      simp -dsimp -implicitDefEqProofs (disch := omega) [go_sem, -List.getD_eq_getElem?_getD, ite_yes, hlt, cs, ht, hfl]
      refine LoopEnd.of (k + 1) (by omega) (by omega) (weakS_mk [some 0] rfl ?_ (by simp -dsimp -implicitDefEqProofs (disch := omega) [go_sem, -List.getD_eq_getElem?_getD, ite_yes, ht]))
      simp -dsimp -implicitDefEqProofs (disch := omega) [go_sem, -List.getD_eq_getElem?_getD, ite_yes, ht]
      have e := fillS_set (f := vlE) (s := 4) (zs := [.int .i64 0, .int .i64 0, .int .i64 0, .bool false]) (fun _ => rfl) rfl (0, 0, 0, false) hlt
      skip
      exact .inl ⟨e.symm, (congrArg (fun x => List.all x flat) e).trans (fillS_flat (fun _ => rfl) rfl)⟩
    · simp -dsimp -implicitDefEqProofs (disch := omega) [go_sem, -List.getD_eq_getElem?_getD, ite_yes, hlt]
      obtain rfl : k = l.length := by omega
      refine fin_list [some 0] rfl ?_ (by simp -dsimp -implicitDefEqProofs (disch := omega) [go_sem, -List.getD_eq_getElem?_getD, ite_yes, ht])
      simp -dsimp -implicitDefEqProofs (disch := omega) [go_sem, -List.getD_eq_getElem?_getD, ite_yes]
      exact .inl ⟨fillS_all.symm, by rw [fillS_all]; exact flatMap_flat fun _ => rfl⟩
theorem eqVlS_A (l m : List Vl) (hl : l.length ≤ 1048577) (hm : m.length ≤ 1048577) (c d : Nat) (H : Heap) (t u : Nat) (hS : Sl vlE H t l) (hU : Sl vlE H u m) :
    AFunC Try.prog 13 [.slice (some ⟨t, 0, none⟩) l.length c, .slice (some ⟨u, 0, none⟩) m.length d] H (.bool (decide (l = m))) H := by
  refine AFunC.of_body Try.func13 (by kernel_rfl) rfl (by kernel_rfl) (by simp [Try.ntmps13]) ?_
  have ht := hS.lt
  have hu := hU.lt
  have cs := fun k hk => hS.cells (s := 4) (fun _ => rfl) (0, 0, 0, false) k hk
  have cu := fun k hk => hU.cells (s := 4) (fun _ => rfl) (0, 0, 0, false) k hk
  try simp only [vlE] at cs cu
  simp -dsimp -implicitDefEqProofs (disch := omega) [go_sem, -List.getD_eq_getElem?_getD, ite_yes]
  refine AIf.of (fun h => ?_) (fun h => ?_)
  · simp -dsimp -implicitDefEqProofs (disch := omega) [go_sem, -List.getD_eq_getElem?_getD, ite_yes]
    have : l ≠ m := by rintro rfl; simp at h
    exact fin_flat0 rfl (by simp [this])
  have hlm : l.length = m.length := by simp at h; omega
  simp -dsimp -implicitDefEqProofs (disch := omega) [go_sem, -List.getD_eq_getElem?_getD, ite_yes]
  refine ALoop.intro (ι := Nat) (fun k => k ≤ l.length ∧ ∀ i, i < k → l.getD i (0, 0, 0, false) = m.getD i (0, 0, 0, false)) (fun k => [(0, .slice (some ⟨t, 0, none⟩) l.length c), (1, .slice (some ⟨u, 0, none⟩) m.length d), (5, .int .i64 k)]) (fun _ => H) (fun k => l.length - k) 0 ⟨by omega, fun i hi => by omega⟩ ?_ ?_
  · exact weakS_same (by simp -dsimp -implicitDefEqProofs (disch := omega) [go_sem, -List.getD_eq_getElem?_getD, ite_yes, ht, hu])
  · rintro k ⟨hk, hg⟩
    by_cases hlt : k < l.length
    · have hlt' : k < m.length := by omega
      simp -dsimp -implicitDefEqProofs (disch := omega) [go_sem, -List.getD_eq_getElem?_getD, ite_yes, hlt]
      refine ADraw.quiet (by kernel_rfl) (by kernel_rfl) (by kernel_rfl) ?_
      simp -dsimp -implicitDefEqProofs (disch := omega) [go_sem, -List.getD_eq_getElem?_getD, ite_yes, hlt, hlt', cs, cu]
      refine ACallQ.of (eqVl_A (l.getD k (0, 0, 0, false)) (m.getD k (0, 0, 0, false)) _) rfl ?_
      simp -dsimp -implicitDefEqProofs (disch := omega) [go_sem, -List.getD_eq_getElem?_getD, ite_yes, hlt]
      refine AIf.of (fun h1 => ?_) (fun h1 => ?_)
      · simp -dsimp -implicitDefEqProofs (disch := omega) [go_sem, -List.getD_eq_getElem?_getD, ite_yes]
        have : l ≠ m := by rintro rfl; simp at h1
        exact fin_flat0 rfl (by simp [this])
      · simp -dsimp -implicitDefEqProofs (disch := omega) [go_sem, -List.getD_eq_getElem?_getD, ite_yes, hlt, hlt']
        refine LoopEnd.of (k + 1) ⟨by omega, fun i hi => ?_⟩ (by omega) (weakS_same (by simp -dsimp -implicitDefEqProofs (disch := omega) [go_sem, -List.getD_eq_getElem?_getD, ite_yes, ht, hu]))
        rcases Nat.lt_or_ge i k with h' | h'
        · exact hg i h'
        · obtain rfl : i = k := by omega
          simpa using h1
    · simp -dsimp -implicitDefEqProofs (disch := omega) [go_sem, -List.getD_eq_getElem?_getD, ite_yes, hlt]
      obtain rfl : k = l.length := by omega
      have : l = m := by
        apply List.ext_getElem hlm
        intro i h1 h2
        have := hg i h1
        simpa [List.getD, h1, h2] using this
      exact fin_flat0 rfl (by simp [this])
theorem eqVlS_nil (d u : Nat) (H : Heap) : AFunC Try.prog 13 [.slice none 0 0, .slice (some ⟨u, 0, none⟩) 0 d] H (.bool true) H := by
  refine AFunC.of_body Try.func13 (by kernel_rfl) rfl (by kernel_rfl) (by simp [Try.ntmps13]) ?_
  simp -dsimp -implicitDefEqProofs (disch := omega) [go_sem, -List.getD_eq_getElem?_getD, ite_yes]
  refine ALoop.intro (ι := Unit) (fun _ => True) (fun _ => [(0, .slice none 0 0), (5, .int .i64 0)]) (fun _ => H) (fun _ => 0) () trivial ?_ ?_
  · exact weakS_same (by simp -dsimp -implicitDefEqProofs (disch := omega) [go_sem, -List.getD_eq_getElem?_getD, ite_yes])
  · intro _ _
    simp -dsimp -implicitDefEqProofs (disch := omega) [go_sem, -List.getD_eq_getElem?_getD, ite_yes]
    exact fin_flat0 rfl rfl
theorem markVl_step {l : List Vl} {k0 : Int} {k : Nat} (hlt : k < l.length) : ((((((mixL l (marksVl k0 l.length) k).flatMap vlE).set (k * 4) (.int .i64 (k0 + 4 * (k : Int) + 0))).set (k * 4 + 1) (.int .i64 (k0 + 4 * (k : Int) + 1))).set (k * 4 + 2) (.int .i64 (k0 + 4 * (k : Int) + 2))).set (k * 4 + 3) (.bool (decide ((k0 + 4 * (k : Int) + 3) % 3 = 0)))) = (mixL l (marksVl k0 l.length) (k + 1)).flatMap vlE := by
  have h1 := mixL_next (l := l) (m := marksVl k0 l.length) (marksVl_length _ _) (0, 0, 0, false) hlt
  have h2 := set_parts (f := vlE) (l := mixL l (marksVl k0 l.length) k) (s := 4) (fun _ => rfl) ((marksVl k0 l.length).getD k (0, 0, 0, false)) (by rw [mixL_length (marksVl_length _ _) (by omega)]; exact hlt)
  rw [h1, marksVl_getD _ _ hlt] at h2
  rw [← h2]
  simp [aSetL, vlE, Nat.add_assoc]
theorem markVlS_A (l : List Vl) (hl : l.length ≤ 1048577) (c e : Nat) (k0 : Int) (h0 : 0 ≤ k0) (h1 : k0 ≤ 100000000) (H : Heap) (t : Nat) (hb : H.get t = some ⟨l.flatMap vlE, true, e, 4⟩) :
    AFunC Try.prog 16 [.slice (some ⟨t, 0, none⟩) l.length c, .int .i64 k0] H (.int .i64 (k0 + 4 * l.length)) (H.set t (some ⟨(marksVl k0 l.length).flatMap vlE, true, e, 4⟩)) := by
  refine AFunC.of_body Try.func16 (by kernel_rfl) rfl (by kernel_rfl) (by simp [Try.ntmps16]) ?_
  have ht := Heap.get_lt hb
  simp -dsimp -implicitDefEqProofs (disch := omega) [go_sem, -List.getD_eq_getElem?_getD, ite_yes]
  refine ALoop.intro (ι := Nat) (fun k => k ≤ l.length) (fun k => [(0, .slice (some ⟨t, 0, none⟩) l.length c), (1, .int .i64 (k0 + 4 * (k : Int))), (5, .int .i64 k)]) (fun k => H.set t (some ⟨(mixL l (marksVl k0 l.length) k).flatMap vlE, true, e, 4⟩)) (fun k => l.length - k) 0 (by omega) ?_ ?_
  · exact weakS_set ht (vlE_flat _) rfl (by rw [mixL_zero]; exact (Heap.set_self hb).symm) (by simp -dsimp -implicitDefEqProofs (disch := omega) [go_sem, -List.getD_eq_getElem?_getD, ite_yes, ht])
  · intro k hk
    have gs := fun x => Heap.get_set_self (H := H) ht (x := x)
    have bs := fun x => (by unfold blkSz; rw [gs x]; cases x <;> rfl : blkSz (H.set t x) t = x.map (·.sz))
    have hml := mixL_length (l := l) (m := marksVl k0 l.length) (marksVl_length _ _) hk
    have hfl : ((mixL l (marksVl k0 l.length) k).flatMap vlE).length = l.length * 4 := by rw [vlE_length, hml]
    by_cases hlt : k < l.length
    · have st := markVl_step (k0 := k0) hlt
      simp -dsimp -implicitDefEqProofs (disch := omega) [go_sem, -List.getD_eq_getElem?_getD, ite_yes, hlt, ht, gs, bs, hfl, List.set_set, List.length_set]
      refine LoopEnd.of (k + 1) (by omega) (by omega) (weakS_set ht (vlE_flat (mixL l (marksVl k0 l.length) (k + 1))) rfl (by rw [← st]; simp [Int.add_assoc]) (by simp -dsimp -implicitDefEqProofs (disch := omega) [go_sem, -List.getD_eq_getElem?_getD, ite_yes, ht] <;> omega))
    · simp -dsimp -implicitDefEqProofs (disch := omega) [go_sem, -List.getD_eq_getElem?_getD, ite_yes, hlt]
      obtain rfl : k = l.length := by omega
      exact fin_set ht (vlE_flat (marksVl k0 l.length)) rfl (by rw [mixL_all (marksVl_length _ _)]) rfl (by simp)
theorem markVlS_nil (k0 : Int) (H : Heap) : AFunC Try.prog 16 [.slice none 0 0, .int .i64 k0] H (.int .i64 k0) H := by
  refine AFunC.of_body Try.func16 (by kernel_rfl) rfl (by kernel_rfl) (by simp [Try.ntmps16]) ?_
  simp -dsimp -implicitDefEqProofs (disch := omega) [go_sem, -List.getD_eq_getElem?_getD, ite_yes]
  refine ALoop.intro (ι := Unit) (fun _ => True) (fun _ => [(0, .slice none 0 0), (1, .int .i64 k0), (5, .int .i64 0)]) (fun _ => H) (fun _ => 0) () trivial ?_ ?_
  · exact weakS_same (by simp -dsimp -implicitDefEqProofs (disch := omega) [go_sem, -List.getD_eq_getElem?_getD, ite_yes])
  · intro _ _
    simp -dsimp -implicitDefEqProofs (disch := omega) [go_sem, -List.getD_eq_getElem?_getD, ite_yes]
    exact fin_flat0 rfl rfl
end Go.Proofs.Ytamkdgjagjpmlaa
