/- Helpers of the laws on Pipe. -/
import Derived.Test.YtamkdgjagjpmlaaFacts
import Derived.Test.YtamkdgjagjpmlaaAm14
namespace Go.Proofs.Ytamkdgjagjpmlaa
open Go.Am
set_option linter.unusedVariables false
set_option linter.unusedSimpArgs false
set_option maxRecDepth 100000

abbrev Pp := Int × Int × Int × Int
def ppE (r : Pp) : List Value := [.int .i64 (r.1), .int .i64 (r.2.1), .int .i64 (r.2.2.1), .int .i64 (r.2.2.2)]
theorem ppE_flat (l : List Pp) : (l.flatMap ppE).all flat = true := flatMap_flat fun _ => rfl
theorem ppE_length (l : List Pp) : (l.flatMap ppE).length = l.length * 4 := flatMap_length ppE 4 (fun _ => rfl) l
/-- the marks that a law writes into a list -/
def marksPp (k0 : Int) (n : Nat) : List Pp := (List.range n).map fun (i : Nat) => (k0 + 4 * (i : Int) + 0, k0 + 4 * (i : Int) + 1, k0 + 4 * (i : Int) + 2, k0 + 4 * (i : Int) + 3)
theorem marksPp_length (k0 : Int) (n : Nat) : (marksPp k0 n).length = n := by simp [marksPp]
theorem marksPp_getD (k0 : Int) (n : Nat) {k : Nat} (h : k < n) : (marksPp k0 n).getD k (0, 0, 0, 0) = (k0 + 4 * (k : Int) + 0, k0 + 4 * (k : Int) + 1, k0 + 4 * (k : Int) + 2, k0 + 4 * (k : Int) + 3) := by simp [marksPp, List.getD, h]
def szPp (n left : Int) : Int := if left - n < 0 then -1 else left - n
theorem szPp_A (n c : Nat) (hn : (n : Int) ≤ 9223372036854775807) (left : Int) (h0 : 0 ≤ left) (h1 : left ≤ 9223372036854775807) (t : Nat) (H : Heap) : AFunC Try.prog 20 [.slice (some ⟨t, 0, none⟩) n c, .int .i64 left] H (.int .i64 (szPp n left)) H := by
  refine AFunC.of_body Try.func20 (by kernel_rfl) rfl (by kernel_rfl) (by simp [Try.ntmps20]) ?_
  simp -dsimp -implicitDefEqProofs (disch := omega) [go_sem, -List.getD_eq_getElem?_getD, ite_yes]
  refine AIf.of (fun h => ?_) (fun h => ?_)
  · simp -dsimp -implicitDefEqProofs (disch := omega) [go_sem, -List.getD_eq_getElem?_getD, ite_yes]
    exact fin_flat0 rfl (by simp at h; simp [szPp, h])
  · simp -dsimp -implicitDefEqProofs (disch := omega) [go_sem, -List.getD_eq_getElem?_getD, ite_yes]
    exact fin_flat0 rfl (by simp at h; simp [szPp]; omega)
theorem szPp_len {l : List Pp} {n : Int} (h : ¬ szPp l.length n < 0) : (l.length : Int) ≤ n := by
  unfold szPp at h
  split at h <;> omega
theorem szPp_rng {n : Nat} {left : Int} (h : ¬ szPp n left < 0) (h2 : left ≤ 1048576) : 0 ≤ szPp n left ∧ szPp n left ≤ 1048576 := by
  unfold szPp at h ⊢
  split at h <;> split <;> omega
theorem toPp_A (r : Pp) (H : Heap) : AFunC Try.prog 37 [.agg #[.int .i64 (r.1), .int .i64 (r.2.1), .int .i64 (r.2.2.1), .int .i64 (r.2.2.2)]] H (.agg #[.int .i64 (r.1), .int .i64 (r.2.1), .int .i64 (r.2.2.1), .int .i64 (r.2.2.2)]) H := by
  refine AFunC.of_body Try.func37 (by kernel_rfl) rfl (by kernel_rfl) (by simp [Try.ntmps37]) ?_
  simp -dsimp -implicitDefEqProofs (disch := omega) [go_sem, -List.getD_eq_getElem?_getD, ite_yes]
  exact fin_flat rfl rfl
theorem eqPp_A (a b : Pp) (H : Heap) : AFunC Try.prog 47 [.agg #[.int .i64 (a.1), .int .i64 (a.2.1), .int .i64 (a.2.2.1), .int .i64 (a.2.2.2)], .agg #[.int .i64 (b.1), .int .i64 (b.2.1), .int .i64 (b.2.2.1), .int .i64 (b.2.2.2)]] H (.bool (decide (a = b))) H := by
  refine AFunC.of_body Try.func47 (by kernel_rfl) rfl (by kernel_rfl) (by simp [Try.ntmps47]) ?_
  simp -dsimp -implicitDefEqProofs (disch := omega) [go_sem, -List.getD_eq_getElem?_getD, ite_yes]
  refine AIf.of (fun h0 => ?_) (fun h0 => ?_)
  · simp -dsimp -implicitDefEqProofs (disch := omega) [go_sem, -List.getD_eq_getElem?_getD, ite_yes]
    exact fin_flat rfl (by simp at h0; simp [Prod.ext_iff, h0])
  · have h0 := h0
    simp -dsimp -implicitDefEqProofs (disch := omega) [go_sem, -List.getD_eq_getElem?_getD, ite_yes]
    refine AIf.of (fun h1 => ?_) (fun h1 => ?_)
    · simp -dsimp -implicitDefEqProofs (disch := omega) [go_sem, -List.getD_eq_getElem?_getD, ite_yes]
      exact fin_flat rfl (by simp at h0 h1; simp [Prod.ext_iff, h0, h1])
    · have h1 := h1
      simp -dsimp -implicitDefEqProofs (disch := omega) [go_sem, -List.getD_eq_getElem?_getD, ite_yes]
      refine AIf.of (fun h2 => ?_) (fun h2 => ?_)
      · simp -dsimp -implicitDefEqProofs (disch := omega) [go_sem, -List.getD_eq_getElem?_getD, ite_yes]
        exact fin_flat rfl (by simp at h0 h1 h2; simp [Prod.ext_iff, h0, h1, h2])
      · have h2 := h2
        simp -dsimp -implicitDefEqProofs (disch := omega) [go_sem, -List.getD_eq_getElem?_getD, ite_yes]
        refine AIf.of (fun h3 => ?_) (fun h3 => ?_)
        · simp -dsimp -implicitDefEqProofs (disch := omega) [go_sem, -List.getD_eq_getElem?_getD, ite_yes]
          exact fin_flat rfl (by simp at h0 h1 h2 h3; simp [Prod.ext_iff, h0, h1, h2, h3])
        · have h3 := h3
          simp -dsimp -implicitDefEqProofs (disch := omega) [go_sem, -List.getD_eq_getElem?_getD, ite_yes]
          exact fin_flat rfl (by simp at h0 h1 h2 h3; simp [Prod.ext_iff, h0, h1, h2, h3])
theorem toPpS_A (l : List Pp) (hl : l.length ≤ 1048577) (c : Nat) (H : Heap) (t : Nat) (hS : Sl ppE H t l) :
    AFunC Try.prog 24 [.slice (some ⟨t, 0, none⟩) l.length c] H (.slice (some ⟨H.length, 0, none⟩) l.length l.length) (H ++ [some ⟨l.flatMap ppE, true, 68, 4⟩]) := by
  refine AFunC.of_body Try.func24 (by kernel_rfl) rfl (by kernel_rfl) (by simp [Try.ntmps24]) ?_
  have ht := hS.lt
  have cs := fun k hk => hS.cells (s := 4) (fun _ => rfl) (0, 0, 0, 0) k hk
  try simp only [ppE] at cs
  simp -dsimp -implicitDefEqProofs (disch := omega) [go_sem, -List.getD_eq_getElem?_getD, ite_yes]
  refine ⟨by omega, ?_⟩
  refine ALoop.intro (ι := Nat) (fun k => k ≤ l.length) (fun k => [(0, .slice (some ⟨t, 0, none⟩) l.length c), (3, .slice (some ⟨H.length, 0, none⟩) l.length l.length), (4, .int .i64 k)]) (fun k => H ++ [some ⟨fillS ppE [.int .i64 0, .int .i64 0, .int .i64 0, .int .i64 0] l k, true, 68, 4⟩]) (fun k => l.length - k) 0 (by omega) ?_ ?_
  · refine weakS_mk [some 0] rfl ?_ (by simp -dsimp -implicitDefEqProofs (disch := omega) [go_sem, -List.getD_eq_getElem?_getD, ite_yes, ht])
    simp -dsimp -implicitDefEqProofs (disch := omega) [go_sem, -List.getD_eq_getElem?_getD, ite_yes]
    exact .inl ⟨fillS_zero, by simp [flat]⟩
  · intro k hk
    have hfl := fillS_length (f := ppE) (s := 4) (zs := [.int .i64 0, .int .i64 0, .int .i64 0, .int .i64 0]) (fun _ => rfl) rfl hk
    by_cases hlt : k < l.length
    · simp -dsimp -implicitDefEqProofs (disch := omega) [go_sem, -List.getD_eq_getElem?_getD, ite_yes, hlt, cs, ht]
      refine ACall.of (toPp_A (l.getD k (0, 0, 0, 0)) _) ?_
      simp -dsimp -implicitDefEqProofs (disch := omega) [go_sem, -List.getD_eq_getElem?_getD, ite_yes, hlt, cs, ht, hfl]
      refine LoopEnd.of (k + 1) (by omega) (by omega) (weakS_mk [some 0] rfl ?_ (by simp -dsimp -implicitDefEqProofs (disch := omega) [go_sem, -List.getD_eq_getElem?_getD, ite_yes, ht]))
      simp -dsimp -implicitDefEqProofs (disch := omega) [go_sem, -List.getD_eq_getElem?_getD, ite_yes, ht]
      have e := fillS_set (f := ppE) (s := 4) (zs := [.int .i64 0, .int .i64 0, .int .i64 0, .int .i64 0]) (fun _ => rfl) rfl (0, 0, 0, 0) hlt
      skip
      exact .inl ⟨e.symm, (congrArg (fun x => List.all x flat) e).trans (fillS_flat (fun _ => rfl) rfl)⟩
    · simp -dsimp -implicitDefEqProofs (disch := omega) [go_sem, -List.getD_eq_getElem?_getD, ite_yes, hlt]
      obtain rfl : k = l.length := by omega
      refine fin_list [some 0] rfl ?_ (by simp -dsimp -implicitDefEqProofs (disch := omega) [go_sem, -List.getD_eq_getElem?_getD, ite_yes, ht])
      simp -dsimp -implicitDefEqProofs (disch := omega) [go_sem, -List.getD_eq_getElem?_getD, ite_yes]
      exact .inl ⟨fillS_all.symm, by rw [fillS_all]; exact flatMap_flat fun _ => rfl⟩
theorem eqPpS_A (l m : List Pp) (hl : l.length ≤ 1048577) (hm : m.length ≤ 1048577) (c d : Nat) (H : Heap) (t u : Nat) (hS : Sl ppE H t l) (hU : Sl ppE H u m) :
    AFunC Try.prog 29 [.slice (some ⟨t, 0, none⟩) l.length c, .slice (some ⟨u, 0, none⟩) m.length d] H (.bool (decide (l = m))) H := by
  refine AFunC.of_body Try.func29 (by kernel_rfl) rfl (by kernel_rfl) (by simp [Try.ntmps29]) ?_
  have ht := hS.lt
  have hu := hU.lt
  have cs := fun k hk => hS.cells (s := 4) (fun _ => rfl) (0, 0, 0, 0) k hk
  have cu := fun k hk => hU.cells (s := 4) (fun _ => rfl) (0, 0, 0, 0) k hk
  try simp only [ppE] at cs cu
  simp -dsimp -implicitDefEqProofs (disch := omega) [go_sem, -List.getD_eq_getElem?_getD, ite_yes]
  refine AIf.of (fun h => ?_) (fun h => ?_)
  · simp -dsimp -implicitDefEqProofs (disch := omega) [go_sem, -List.getD_eq_getElem?_getD, ite_yes]
    have : l ≠ m := by rintro rfl; simp at h
    exact fin_flat0 rfl (by simp [this])
  have hlm : l.length = m.length := by simp at h; omega
  simp -dsimp -implicitDefEqProofs (disch := omega) [go_sem, -List.getD_eq_getElem?_getD, ite_yes]
  refine ALoop.intro (ι := Nat) (fun k => k ≤ l.length ∧ ∀ i, i < k → l.getD i (0, 0, 0, 0) = m.getD i (0, 0, 0, 0)) (fun k => [(0, .slice (some ⟨t, 0, none⟩) l.length c), (1, .slice (some ⟨u, 0, none⟩) m.length d), (5, .int .i64 k)]) (fun _ => H) (fun k => l.length - k) 0 ⟨by omega, fun i hi => by omega⟩ ?_ ?_
  · exact weakS_same (by simp -dsimp -implicitDefEqProofs (disch := omega) [go_sem, -List.getD_eq_getElem?_getD, ite_yes, ht, hu])
  · rintro k ⟨hk, hg⟩
    by_cases hlt : k < l.length
    · have hlt' : k < m.length := by omega
      simp -dsimp -implicitDefEqProofs (disch := omega) [go_sem, -List.getD_eq_getElem?_getD, ite_yes, hlt]
      refine ADraw.quiet (by kernel_rfl) (by kernel_rfl) (by kernel_rfl) ?_
      simp -dsimp -implicitDefEqProofs (disch := omega) [go_sem, -List.getD_eq_getElem?_getD, ite_yes, hlt, hlt', cs, cu]
      refine ACallQ.of (eqPp_A (l.getD k (0, 0, 0, 0)) (m.getD k (0, 0, 0, 0)) _) rfl ?_
      simp -dsimp -implicitDefEqProofs (disch := omega) [go_sem, -List.getD_eq_getElem?_getD, ite_yes, hlt]
      refine AIf.of (fun h1 => ?_) (fun h1 => ?_)
      · simp -dsimp -implicitDefEqProofs (disch := omega) [go_sem, -List.getD_eq_getElem?_getD, ite_yes]
        have : l ≠ m := by rintro rfl; simp at h1
        exact fin_flat0 rfl (by simp [this])
      · simp -dsimp -implicitDefEqProofs (disch := omega) [go_sem, -List.getD_eq_getElem?_getD, ite_yes, hlt, hlt']
        refine LoopEnd.of (k + 1) ⟨by omega, fun i hi => ?_⟩ (by omega) (weakS_same (by simp -dsimp -implicitDefEqProofs (disch := omega) [go_sem, -List.getD_eq_getElem?_getD, ite_yes, ht, hu]))
        rcases Nat.lt_or_ge i k with h' | h'
        · exact hg i h'
        · obtain rfl : i = k := by omega
          simpa using h1
    · simp -dsimp -implicitDefEqProofs (disch := omega) [go_sem, -List.getD_eq_getElem?_getD, ite_yes, hlt]
      obtain rfl : k = l.length := by omega
      have : l = m := by
        apply List.ext_getElem hlm
        intro i h1 h2
        have := hg i h1
        simpa [List.getD, h1, h2] using this
      exact fin_flat0 rfl (by simp [this])
theorem eqPpS_nil (d u : Nat) (H : Heap) : AFunC Try.prog 29 [.slice none 0 0, .slice (some ⟨u, 0, none⟩) 0 d] H (.bool true) H := by
  refine AFunC.of_body Try.func29 (by kernel_rfl) rfl (by kernel_rfl) (by simp [Try.ntmps29]) ?_
  simp -dsimp -implicitDefEqProofs (disch := omega) [go_sem, -List.getD_eq_getElem?_getD, ite_yes]
  refine ALoop.intro (ι := Unit) (fun _ => True) (fun _ => [(0, .slice none 0 0), (5, .int .i64 0)]) (fun _ => H) (fun _ => 0) () trivial ?_ ?_
  · exact weakS_same (by simp -dsimp -implicitDefEqProofs (disch := omega) [go_sem, -List.getD_eq_getElem?_getD, ite_yes])
  · intro _ _
    simp -dsimp -implicitDefEqProofs (disch := omega) [go_sem, -List.getD_eq_getElem?_getD, ite_yes]
    exact fin_flat0 rfl rfl
theorem markPp_step {l : List Pp} {k0 : Int} {k : Nat} (hlt : k < l.length) : ((((((mixL l (marksPp k0 l.length) k).flatMap ppE).set (k * 4) (.int .i64 (k0 + 4 * (k : Int) + 0))).set (k * 4 + 1) (.int .i64 (k0 + 4 * (k : Int) + 1))).set (k * 4 + 2) (.int .i64 (k0 + 4 * (k : Int) + 2))).set (k * 4 + 3) (.int .i64 (k0 + 4 * (k : Int) + 3))) = (mixL l (marksPp k0 l.length) (k + 1)).flatMap ppE := by
  have h1 := mixL_next (l := l) (m := marksPp k0 l.length) (marksPp_length _ _) (0, 0, 0, 0) hlt
  have h2 := set_parts (f := ppE) (l := mixL l (marksPp k0 l.length) k) (s := 4) (fun _ => rfl) ((marksPp k0 l.length).getD k (0, 0, 0, 0)) (by rw [mixL_length (marksPp_length _ _) (by omega)]; exact hlt)
  rw [h1, marksPp_getD _ _ hlt] at h2
  rw [← h2]
  simp [aSetL, ppE, Nat.add_assoc]
theorem markPpS_A (l : List Pp) (hl : l.length ≤ 1048577) (c e : Nat) (k0 : Int) (h0 : 0 ≤ k0) (h1 : k0 ≤ 100000000) (H : Heap) (t : Nat) (hb : H.get t = some ⟨l.flatMap ppE, true, e, 4⟩) :
    AFunC Try.prog 31 [.slice (some ⟨t, 0, none⟩) l.length c, .int .i64 k0] H (.int .i64 (k0 + 4 * l.length)) (H.set t (some ⟨(marksPp k0 l.length).flatMap ppE, true, e, 4⟩)) := by
  refine AFunC.of_body Try.func31 (by kernel_rfl) rfl (by kernel_rfl) (by simp [Try.ntmps31]) ?_
  have ht := Heap.get_lt hb
  simp -dsimp -implicitDefEqProofs (disch := omega) [go_sem, -List.getD_eq_getElem?_getD, ite_yes]
  refine ALoop.intro (ι := Nat) (fun k => k ≤ l.length) (fun k => [(0, .slice (some ⟨t, 0, none⟩) l.length c), (1, .int .i64 (k0 + 4 * (k : Int))), (5, .int .i64 k)]) (fun k => H.set t (some ⟨(mixL l (marksPp k0 l.length) k).flatMap ppE, true, e, 4⟩)) (fun k => l.length - k) 0 (by omega) ?_ ?_
  · exact weakS_set ht (ppE_flat _) rfl (by rw [mixL_zero]; exact (Heap.set_self hb).symm) (by simp -dsimp -implicitDefEqProofs (disch := omega) [go_sem, -List.getD_eq_getElem?_getD, ite_yes, ht])
  · intro k hk
    have gs := fun x => Heap.get_set_self (H := H) ht (x := x)
    have bs := fun x => (by unfold blkSz; rw [gs x]; cases x <;> rfl : blkSz (H.set t x) t = x.map (·.sz))
    have hml := mixL_length (l := l) (m := marksPp k0 l.length) (marksPp_length _ _) hk
    have hfl : ((mixL l (marksPp k0 l.length) k).flatMap ppE).length = l.length * 4 := by rw [ppE_length, hml]
    by_cases hlt : k < l.length
    · have st := markPp_step (k0 := k0) hlt
      simp -dsimp -implicitDefEqProofs (disch := omega) [go_sem, -List.getD_eq_getElem?_getD, ite_yes, hlt, ht, gs, bs, hfl, List.set_set, List.length_set]
      refine LoopEnd.of (k + 1) (by omega) (by omega) (weakS_set ht (ppE_flat (mixL l (marksPp k0 l.length) (k + 1))) rfl (by rw [← st]; simp [Int.add_assoc]) (by simp -dsimp -implicitDefEqProofs (disch := omega) [go_sem, -List.getD_eq_getElem?_getD, ite_yes, ht] <;> omega))
    · simp -dsimp -implicitDefEqProofs (disch := omega) [go_sem, -List.getD_eq_getElem?_getD, ite_yes, hlt]
      obtain rfl : k = l.length := by omega
      exact fin_set ht (ppE_flat (marksPp k0 l.length)) rfl (by rw [mixL_all (marksPp_length _ _)]) rfl (by simp)
theorem markPpS_nil (k0 : Int) (H : Heap) : AFunC Try.prog 31 [.slice none 0 0, .int .i64 k0] H (.int .i64 k0) H := by
  refine AFunC.of_body Try.func31 (by kernel_rfl) rfl (by kernel_rfl) (by simp [Try.ntmps31]) ?_
  simp -dsimp -implicitDefEqProofs (disch := omega) [go_sem, -List.getD_eq_getElem?_getD, ite_yes]
  refine ALoop.intro (ι := Unit) (fun _ => True) (fun _ => [(0, .slice none 0 0), (1, .int .i64 k0), (5, .int .i64 0)]) (fun _ => H) (fun _ => 0) () trivial ?_ ?_
  · exact weakS_same (by simp -dsimp -implicitDefEqProofs (disch := omega) [go_sem, -List.getD_eq_getElem?_getD, ite_yes])
  · intro _ _
    simp -dsimp -implicitDefEqProofs (disch := omega) [go_sem, -List.getD_eq_getElem?_getD, ite_yes]
    exact fin_flat0 rfl rfl
end Go.Proofs.Ytamkdgjagjpmlaa
