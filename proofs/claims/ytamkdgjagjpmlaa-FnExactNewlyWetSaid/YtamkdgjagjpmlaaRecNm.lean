/- Helpers of the laws on Int. -/
import Derived.Test.YtamkdgjagjpmlaaFacts
import Derived.Test.YtamkdgjagjpmlaaAm14
namespace Go.Proofs.Ytamkdgjagjpmlaa
open Go.Am
set_option linter.unusedVariables false
set_option linter.unusedSimpArgs false
set_option maxRecDepth 100000

abbrev Nm := Int
def nmE (r : Nm) : List Value := [.int .i64 (r)]
theorem nmE_flat (l : List Nm) : (l.flatMap nmE).all flat = true := flatMap_flat fun _ => rfl
theorem nmE_length (l : List Nm) : (l.flatMap nmE).length = l.length * 1 := flatMap_length nmE 1 (fun _ => rfl) l
/-- the marks that a law writes into a list -/
def marksNm (k0 : Int) (n : Nat) : List Nm := (List.range n).map fun (i : Nat) => k0 + 1 * (i : Int) + 0
theorem marksNm_length (k0 : Int) (n : Nat) : (marksNm k0 n).length = n := by simp [marksNm]
theorem marksNm_getD (k0 : Int) (n : Nat) {k : Nat} (h : k < n) : (marksNm k0 n).getD k 0 = k0 + 1 * (k : Int) + 0 := by simp [marksNm, List.getD, h]
def szNm (n left : Int) : Int := if left - n < 0 then -1 else left - n
theorem szNm_len {l : List Nm} {n : Int} (h : ¬ szNm l.length n < 0) : (l.length : Int) ≤ n := by
  unfold szNm at h
  split at h <;> omega
theorem szNm_rng {n : Nat} {left : Int} (h : ¬ szNm n left < 0) (h2 : left ≤ 1048576) : 0 ≤ szNm n left ∧ szNm n left ≤ 1048576 := by
  unfold szNm at h ⊢
  split at h <;> split <;> omega
theorem toNmS_A (l : List Nm) (hl : l.length ≤ 1048577) (c : Nat) (H : Heap) (t : Nat) (hS : Sl nmE H t l) :
    AFunC Try.prog 9 [.slice (some ⟨t, 0, none⟩) l.length c] H (.slice (some ⟨H.length, 0, none⟩) l.length l.length) (H ++ [some ⟨l.flatMap nmE, true, 3, 1⟩]) := by
  refine AFunC.of_body Try.func9 (by kernel_rfl) rfl (by kernel_rfl) (by simp [Try.ntmps9]) ?_
  have ht := hS.lt
  have cs := fun k hk => hS.one (g := fun n => Value.int .i64 n) 0 k hk
  try simp only [nmE] at cs
  simp -dsimp -implicitDefEqProofs (disch := omega) [go_sem, -List.getD_eq_getElem?_getD, ite_yes]
  refine ⟨by omega, ?_⟩
  refine ALoop.intro (ι := Nat) (fun k => k ≤ l.length) (fun k => [(0, .slice (some ⟨t, 0, none⟩) l.length c), (3, .slice (some ⟨H.length, 0, none⟩) l.length l.length), (4, .int .i64 k)]) (fun k => H ++ [some ⟨fillS nmE [.int .i64 0] l k, true, 3, 1⟩]) (fun k => l.length - k) 0 (by omega) ?_ ?_
  · refine weakS_mk [some 0] rfl ?_ (by simp -dsimp -implicitDefEqProofs (disch := omega) [go_sem, -List.getD_eq_getElem?_getD, ite_yes, ht])
    simp -dsimp -implicitDefEqProofs (disch := omega) [go_sem, -List.getD_eq_getElem?_getD, ite_yes]
    exact .inl ⟨by simp [fillS], by simp [flat]⟩
  · intro k hk
    have hfl := fillS_length (f := nmE) (s := 1) (zs := [.int .i64 0]) (fun _ => rfl) rfl hk
    by_cases hlt : k < l.length
    · simp -dsimp -implicitDefEqProofs (disch := omega) [go_sem, -List.getD_eq_getElem?_getD, ite_yes, hlt, cs, ht, hfl, Nat.mul_one]
      skip
      refine LoopEnd.of (k + 1) (by omega) (by omega) (weakS_mk [some 0] rfl ?_ (by simp -dsimp -implicitDefEqProofs (disch := omega) [go_sem, -List.getD_eq_getElem?_getD, ite_yes, ht]))
      simp -dsimp -implicitDefEqProofs (disch := omega) [go_sem, -List.getD_eq_getElem?_getD, ite_yes, ht]
      have e := fillS_set (f := nmE) (s := 1) (zs := [.int .i64 0]) (fun _ => rfl) rfl 0 hlt
      have e : (fillS nmE [.int .i64 0] l k).set k (.int .i64 (l.getD k 0)) = fillS nmE [.int .i64 0] l (k + 1) := by
        rw [List.set_eq_take_append_cons_drop, if_pos (by omega)]
        simpa [nmE] using e
      exact .inl ⟨e.symm, (congrArg (fun x => List.all x flat) e).trans (fillS_flat (fun _ => rfl) rfl)⟩
    · simp -dsimp -implicitDefEqProofs (disch := omega) [go_sem, -List.getD_eq_getElem?_getD, ite_yes, hlt]
      obtain rfl : k = l.length := by omega
      refine fin_list [some 0] rfl ?_ (by simp -dsimp -implicitDefEqProofs (disch := omega) [go_sem, -List.getD_eq_getElem?_getD, ite_yes, ht])
      simp -dsimp -implicitDefEqProofs (disch := omega) [go_sem, -List.getD_eq_getElem?_getD, ite_yes]
      exact .inl ⟨fillS_all.symm, by rw [fillS_all]; exact flatMap_flat fun _ => rfl⟩
theorem eqNmS_A (l m : List Nm) (hl : l.length ≤ 1048577) (hm : m.length ≤ 1048577) (c d : Nat) (H : Heap) (t u : Nat) (hS : Sl nmE H t l) (hU : Sl nmE H u m) :
    AFunC Try.prog 14 [.slice (some ⟨t, 0, none⟩) l.length c, .slice (some ⟨u, 0, none⟩) m.length d] H (.bool (decide (l = m))) H := by
  refine AFunC.of_body Try.func14 (by kernel_rfl) rfl (by kernel_rfl) (by simp [Try.ntmps14]) ?_
  have ht := hS.lt
  have hu := hU.lt
  have cs := fun k hk => hS.one (g := fun n => Value.int .i64 n) 0 k hk
  have cu := fun k hk => hU.one (g := fun n => Value.int .i64 n) 0 k hk
  try simp only [nmE] at cs cu
  simp -dsimp -implicitDefEqProofs (disch := omega) [go_sem, -List.getD_eq_getElem?_getD, ite_yes]
  refine AIf.of (fun h => ?_) (fun h => ?_)
  · simp -dsimp -implicitDefEqProofs (disch := omega) [go_sem, -List.getD_eq_getElem?_getD, ite_yes]
    have : l ≠ m := by rintro rfl; simp at h
    exact fin_flat0 rfl (by simp [this])
  have hlm : l.length = m.length := by simp at h; omega
  simp -dsimp -implicitDefEqProofs (disch := omega) [go_sem, -List.getD_eq_getElem?_getD, ite_yes]
  refine ALoop.intro (ι := Nat) (fun k => k ≤ l.length ∧ ∀ i, i < k → l.getD i 0 = m.getD i 0) (fun k => [(0, .slice (some ⟨t, 0, none⟩) l.length c), (1, .slice (some ⟨u, 0, none⟩) m.length d), (5, .int .i64 k)]) (fun _ => H) (fun k => l.length - k) 0 ⟨by omega, fun i hi => by omega⟩ ?_ ?_
  · exact weakS_same (by simp -dsimp -implicitDefEqProofs (disch := omega) [go_sem, -List.getD_eq_getElem?_getD, ite_yes, ht, hu])
  · rintro k ⟨hk, hg⟩
    by_cases hlt : k < l.length
    · have hlt' : k < m.length := by omega
      simp -dsimp -implicitDefEqProofs (disch := omega) [go_sem, -List.getD_eq_getElem?_getD, ite_yes, hlt]
      refine ADraw.quiet (by kernel_rfl) (by kernel_rfl) (by kernel_rfl) ?_
      simp -dsimp -implicitDefEqProofs (disch := omega) [go_sem, -List.getD_eq_getElem?_getD, ite_yes, hlt, hlt', cs, cu]
      skip
      refine AIf.of (fun h1 => ?_) (fun h1 => ?_)
      · simp -dsimp -implicitDefEqProofs (disch := omega) [go_sem, -List.getD_eq_getElem?_getD, ite_yes]
        have : l ≠ m := by rintro rfl; simp at h1
        exact fin_flat0 rfl (by simp [this])
      · simp -dsimp -implicitDefEqProofs (disch := omega) [go_sem, -List.getD_eq_getElem?_getD, ite_yes, hlt, hlt']
        refine LoopEnd.of (k + 1) ⟨by omega, fun i hi => ?_⟩ (by omega) (weakS_same (by simp -dsimp -implicitDefEqProofs (disch := omega) [go_sem, -List.getD_eq_getElem?_getD, ite_yes, ht, hu]))
        rcases Nat.lt_or_ge i k with h' | h'
        · exact hg i h'
        · obtain rfl : i = k := by omega
          simpa using h1
    · simp -dsimp -implicitDefEqProofs (disch := omega) [go_sem, -List.getD_eq_getElem?_getD, ite_yes, hlt]
      obtain rfl : k = l.length := by omega
      have : l = m := by
        apply List.ext_getElem hlm
        intro i h1 h2
        have := hg i h1
        simpa [List.getD, h1, h2] using this
      exact fin_flat0 rfl (by simp [this])
theorem eqNmS_nil (d u : Nat) (H : Heap) : AFunC Try.prog 14 [.slice none 0 0, .slice (some ⟨u, 0, none⟩) 0 d] H (.bool true) H := by
  refine AFunC.of_body Try.func14 (by kernel_rfl) rfl (by kernel_rfl) (by simp [Try.ntmps14]) ?_
  simp -dsimp -implicitDefEqProofs (disch := omega) [go_sem, -List.getD_eq_getElem?_getD, ite_yes]
  refine ALoop.intro (ι := Unit) (fun _ => True) (fun _ => [(0, .slice none 0 0), (5, .int .i64 0)]) (fun _ => H) (fun _ => 0) () trivial ?_ ?_
  · exact weakS_same (by simp -dsimp -implicitDefEqProofs (disch := omega) [go_sem, -List.getD_eq_getElem?_getD, ite_yes])
  · intro _ _
    simp -dsimp -implicitDefEqProofs (disch := omega) [go_sem, -List.getD_eq_getElem?_getD, ite_yes]
    exact fin_flat0 rfl rfl
theorem markNm_step {l : List Nm} {k0 : Int} {k : Nat} (hlt : k < l.length) : (((mixL l (marksNm k0 l.length) k).flatMap nmE).set (k) (.int .i64 (k0 + 1 * (k : Int) + 0))) = (mixL l (marksNm k0 l.length) (k + 1)).flatMap nmE := by
  have h1 := mixL_next (l := l) (m := marksNm k0 l.length) (marksNm_length _ _) 0 hlt
  have h2 := set_parts (f := nmE) (l := mixL l (marksNm k0 l.length) k) (s := 1) (fun _ => rfl) ((marksNm k0 l.length).getD k 0) (by rw [mixL_length (marksNm_length _ _) (by omega)]; exact hlt)
  rw [h1, marksNm_getD _ _ hlt] at h2
  rw [← h2]
  simp [aSetL, nmE, Nat.add_assoc]
theorem markNmS_A (l : List Nm) (hl : l.length ≤ 1048577) (c e : Nat) (k0 : Int) (h0 : 0 ≤ k0) (h1 : k0 ≤ 100000000) (H : Heap) (t : Nat) (hb : H.get t = some ⟨l.flatMap nmE, true, e, 1⟩) :
    AFunC Try.prog 17 [.slice (some ⟨t, 0, none⟩) l.length c, .int .i64 k0] H (.int .i64 (k0 + 1 * l.length)) (H.set t (some ⟨(marksNm k0 l.length).flatMap nmE, true, e, 1⟩)) := by
  refine AFunC.of_body Try.func17 (by kernel_rfl) rfl (by kernel_rfl) (by simp [Try.ntmps17]) ?_
  have ht := Heap.get_lt hb
  simp -dsimp -implicitDefEqProofs (disch := omega) [go_sem, -List.getD_eq_getElem?_getD, ite_yes]
  refine ALoop.intro (ι := Nat) (fun k => k ≤ l.length) (fun k => [(0, .slice (some ⟨t, 0, none⟩) l.length c), (1, .int .i64 (k0 + 1 * (k : Int))), (5, .int .i64 k)]) (fun k => H.set t (some ⟨(mixL l (marksNm k0 l.length) k).flatMap nmE, true, e, 1⟩)) (fun k => l.length - k) 0 (by omega) ?_ ?_
  · exact weakS_set ht (nmE_flat _) rfl (by rw [mixL_zero]; exact (Heap.set_self hb).symm) (by simp -dsimp -implicitDefEqProofs (disch := omega) [go_sem, -List.getD_eq_getElem?_getD, ite_yes, ht])
  · intro k hk
    have gs := fun x => Heap.get_set_self (H := H) ht (x := x)
    have bs := fun x => (by unfold blkSz; rw [gs x]; cases x <;> rfl : blkSz (H.set t x) t = x.map (·.sz))
    have hml := mixL_length (l := l) (m := marksNm k0 l.length) (marksNm_length _ _) hk
    have hfl : ((mixL l (marksNm k0 l.length) k).flatMap nmE).length = l.length * 1 := by rw [nmE_length, hml]
    by_cases hlt : k < l.length
    · have st := markNm_step (k0 := k0) hlt
      simp -dsimp -implicitDefEqProofs (disch := omega) [go_sem, -List.getD_eq_getElem?_getD, ite_yes, hlt, ht, gs, bs, hfl, List.set_set, List.length_set]
      refine LoopEnd.of (k + 1) (by omega) (by omega) (weakS_set ht (nmE_flat (mixL l (marksNm k0 l.length) (k + 1))) rfl (by rw [← st]; simp [Int.add_assoc]) (by simp -dsimp -implicitDefEqProofs (disch := omega) [go_sem, -List.getD_eq_getElem?_getD, ite_yes, ht] <;> omega))
    · simp -dsimp -implicitDefEqProofs (disch := omega) [go_sem, -List.getD_eq_getElem?_getD, ite_yes, hlt]
      obtain rfl : k = l.length := by omega
      exact fin_set ht (nmE_flat (marksNm k0 l.length)) rfl (by rw [mixL_all (marksNm_length _ _)]) rfl (by simp)
theorem markNmS_nil (k0 : Int) (H : Heap) : AFunC Try.prog 17 [.slice none 0 0, .int .i64 k0] H (.int .i64 k0) H := by
  refine AFunC.of_body Try.func17 (by kernel_rfl) rfl (by kernel_rfl) (by simp [Try.ntmps17]) ?_
  simp -dsimp -implicitDefEqProofs (disch := omega) [go_sem, -List.getD_eq_getElem?_getD, ite_yes]
  refine ALoop.intro (ι := Unit) (fun _ => True) (fun _ => [(0, .slice none 0 0), (1, .int .i64 k0), (5, .int .i64 0)]) (fun _ => H) (fun _ => 0) () trivial ?_ ?_
  · exact weakS_same (by simp -dsimp -implicitDefEqProofs (disch := omega) [go_sem, -List.getD_eq_getElem?_getD, ite_yes])
  · intro _ _
    simp -dsimp -implicitDefEqProofs (disch := omega) [go_sem, -List.getD_eq_getElem?_getD, ite_yes]
    exact fin_flat0 rfl rfl
theorem heldNmS_A (n : Nat) (hl : n ≤ 1048577) (c : Nat) (k0 : Int) (h0 : 0 ≤ k0) (h1 : k0 ≤ 100000000) (H : Heap) (t : Nat) (hS : Sl nmE H t (marksNm k0 n)) :
    AFunC Try.prog 32 [.slice (some ⟨t, 0, none⟩) n c, .int .i64 k0] H (.int .i64 (k0 + 1 * n)) H := by
  refine AFunC.of_body Try.func32 (by kernel_rfl) rfl (by kernel_rfl) (by simp [Try.ntmps32]) ?_
  have ht := hS.lt
  have cs0 := fun k hk => hS.one (g := fun n => Value.int .i64 n) 0 k hk
  simp only [marksNm_length, Nat.add_zero] at cs0
  have gd := fun k (h : k < n) => marksNm_getD k0 n h
  simp -dsimp -implicitDefEqProofs (disch := omega) [go_sem, -List.getD_eq_getElem?_getD, ite_yes]
  refine ALoop.intro (ι := Nat) (fun k => k ≤ n) (fun k => [(0, .slice (some ⟨t, 0, none⟩) n c), (1, .int .i64 (k0 + 1 * (k : Int))), (5, .int .i64 k)]) (fun _ => H) (fun k => n - k) 0 (by omega) ?_ ?_
  · exact weakS_same (by simp -dsimp -implicitDefEqProofs (disch := omega) [go_sem, -List.getD_eq_getElem?_getD, ite_yes, ht])
  · intro k hk
    by_cases hlt : k < n
    · simp -dsimp -implicitDefEqProofs (disch := omega) [go_sem, -List.getD_eq_getElem?_getD, ite_yes, hlt, ht, cs0, gd, nmE, Int.add_assoc, List.drop_succ_cons, List.drop_zero, List.take_succ_cons, List.take_zero]
      refine LoopEnd.of (k + 1) (by omega) (by omega) (weakS_same (by simp -dsimp -implicitDefEqProofs (disch := omega) [go_sem, -List.getD_eq_getElem?_getD, ite_yes, ht] <;> omega))
    · simp -dsimp -implicitDefEqProofs (disch := omega) [go_sem, -List.getD_eq_getElem?_getD, ite_yes, hlt]
      obtain rfl : k = n := by omega
      exact fin_flat0 rfl rfl
theorem heldNmS_nil (k0 : Int) (H : Heap) : AFunC Try.prog 32 [.slice none 0 0, .int .i64 k0] H (.int .i64 k0) H := by
  refine AFunC.of_body Try.func32 (by kernel_rfl) rfl (by kernel_rfl) (by simp [Try.ntmps32]) ?_
  simp -dsimp -implicitDefEqProofs (disch := omega) [go_sem, -List.getD_eq_getElem?_getD, ite_yes]
  refine ALoop.intro (ι := Unit) (fun _ => True) (fun _ => [(0, .slice none 0 0), (1, .int .i64 k0), (5, .int .i64 0)]) (fun _ => H) (fun _ => 0) () trivial ?_ ?_
  · exact weakS_same (by simp -dsimp -implicitDefEqProofs (disch := omega) [go_sem, -List.getD_eq_getElem?_getD, ite_yes])
  · intro _ _
    simp -dsimp -implicitDefEqProofs (disch := omega) [go_sem, -List.getD_eq_getElem?_getD, ite_yes]
    exact fin_flat0 rfl rfl
end Go.Proofs.Ytamkdgjagjpmlaa
