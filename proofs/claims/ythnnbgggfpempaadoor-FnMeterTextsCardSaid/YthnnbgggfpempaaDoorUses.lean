/- Meters: the uses between the readings. -/
import Derived.Test.YthnnbgggfpempaaDoorL19
import Derived.Test.YthnnbgggfpempaaDoorAm13
import Derived.Test.YthnnbgggfpempaaDoorRecNm
namespace Go.Proofs.YthnnbgggfpempaaDoor
open Go.Am
set_option linter.unusedVariables false
set_option linter.unusedSimpArgs false
set_option maxRecDepth 100000
set_option maxHeartbeats 1000000

def useOf (a b : Rd) : Int := (b.2 - a.2 + 100000) % 100000
/-- the uses between the first k readings -/
def usesTo (l : List Rd) (k : Nat) : List Int := (List.range (k - 1)).map fun i => useOf (l.getD i (0, 0)) (l.getD (i + 1) (0, 0))
theorem usesTo_next {l : List Rd} {k : Nat} (h : 1 ≤ k) : usesTo l (k + 1) = usesTo l k ++ [useOf (l.getD (k - 1) (0, 0)) (l.getD k (0, 0))] := by
  unfold usesTo
  rw [show k + 1 - 1 = (k - 1) + 1 by omega, List.range_succ, List.map_append]
  simp only [List.map_cons, List.map_nil]
  rw [show k - 1 + 1 = k by omega]
theorem usesTo_length {l : List Rd} {k : Nat} : (usesTo l k).length = k - 1 := by simp [usesTo]
def uses (l : List Rd) : List Int := usesTo l l.length
theorem usesTo_one {l : List Rd} : usesTo l 1 = [] := by simp [usesTo]
theorem usesEnd {l : List Rd} {k : Nat} (h1 : k ≤ max 1 l.length) (h0 : 1 ≤ k) (h : ¬ k < l.length) : usesTo l k = uses l := by
  unfold uses
  rcases Nat.lt_or_ge 0 l.length with h' | h'
  · have : k = l.length := by omega
    rw [this]
  · have : k = 1 := by omega
    have hl : l.length = 0 := by omega
    rw [this, hl]; simp [usesTo]
theorem useOf_bound {a b : Rd} : 0 ≤ useOf a b ∧ useOf a b ≤ 99999 := by unfold useOf; omega
theorem uses_bound {l : List Rd} {k : Nat} : ∀ u ∈ usesTo l k, 0 ≤ u ∧ u ≤ 99999 := by
  intro u hu
  unfold usesTo at hu
  obtain ⟨i, _, rfl⟩ := List.mem_map.1 hu
  exact useOf_bound
theorem usesOf_A (l : List Rd) (hg : good l = true) (c : Nat) (H : Heap) (t : Nat) (hS : Sl rdE H t l) :
    AFunC Tryd.prog 66 [.slice (some ⟨t, 0, none⟩) l.length c] H (.slice (some ⟨H.length, 0, none⟩) (uses l).length (uses l).length) (H ++ [some ⟨(uses l).flatMap nmE, true, 3, 1⟩]) := by
  refine AFunC.of_body Tryd.func66 (by kernel_rfl) rfl (by kernel_rfl) (by simp [Tryd.ntmps66]) ?_
  obtain ⟨h12, hat⟩ := good_at hg
  have ht := hS.lt
  have cs1 := fun k hk => hS.cell (s := 2) (fun _ => rfl) (0, 0) k 1 hk (by omega)
  simp only [rdE] at cs1
  simp -dsimp -implicitDefEqProofs (disch := omega) [go_sem, -List.getD_eq_getElem?_getD, ite_yes]
  refine ALoop.intro (ι := Nat) (fun k => 1 ≤ k ∧ k ≤ max 1 l.length) (fun k => [(0, .slice (some ⟨t, 0, none⟩) l.length c), (3, .slice (some ⟨H.length, 0, none⟩) (k - 1) (k - 1)), (4, .int .i64 k)]) (fun k => H ++ [some ⟨(usesTo l k).flatMap nmE, true, 3, 1⟩]) (fun k => max 1 l.length - k) 1 ⟨by omega, by omega⟩ ?_ ?_
  · refine weakS_mk [some 0] rfl ?_ (by simp -dsimp -implicitDefEqProofs (disch := omega) [go_sem, -List.getD_eq_getElem?_getD, ite_yes, ht])
    simp -dsimp -implicitDefEqProofs (disch := omega) [go_sem, -List.getD_eq_getElem?_getD, ite_yes, usesTo_one]
    exact .inl ⟨rfl, rfl⟩
  · rintro k ⟨hk, hk'⟩
    by_cases hlt : k < l.length
    · have b1 := hat k hlt
      have b2 := hat (k - 1) (by omega)
      have hfl : ((usesTo l k).flatMap nmE).length = k - 1 := by rw [flatMap_length nmE 1 (fun _ => rfl), usesTo_length]; omega
      simp -dsimp -implicitDefEqProofs (disch := omega) [go_sem, -List.getD_eq_getElem?_getD, ite_yes, hlt]
      refine ADraw.any (H ++ [none]) (by kernel_rfl) (SubH.both (by simp [subL])) ?_
      refine AAny.takes (fuel := 3) (by kernel_rfl) (by kernel_rfl) [0, 1, 2, 3, 4, 5, 6, 7, 8, 9, 10, 11, 12, 13, 14] (by kernel_rfl) (by kernel_rfl) ?_
      simp -dsimp -implicitDefEqProofs (disch := omega) [go_sem, -List.getD_eq_getElem?_getD, ite_yes, hlt, cs1, ht]
      refine AAny.one 2 15 (by kernel_rfl) (by kernel_rfl) (by kernel_rfl) ?_
      simp -dsimp -implicitDefEqProofs (disch := omega) [go_sem, -List.getD_eq_getElem?_getD, ite_yes]
      refine AAt.of (SubH.both (by simp [subL])) ?_
      refine AAny.one 1 16 (by kernel_rfl) (by kernel_rfl) (by kernel_rfl) ?_
      simp -dsimp -implicitDefEqProofs (disch := omega) [go_sem, -List.getD_eq_getElem?_getD, ite_yes, hfl]
      refine ⟨by omega, AAt.of (SubH.both (by simp [subL])) ?_⟩
      refine AAny.takes (fuel := 0) (by kernel_rfl) (by kernel_rfl) [17] (by kernel_rfl) (by kernel_rfl) ?_
      simp -dsimp -implicitDefEqProofs (disch := omega) [go_sem, -List.getD_eq_getElem?_getD, ite_yes]
      refine AAny.done (by kernel_rfl) ?_
      simp -dsimp -implicitDefEqProofs (disch := omega) [go_sem, -List.getD_eq_getElem?_getD, ite_yes]
      have e : (usesTo l (k + 1)).flatMap nmE = (usesTo l k).flatMap nmE ++ [.int .i64 (((l.getD k (0, 0)).2 - (l.getD (k - 1) (0, 0)).2) % 100000)] := by
        rw [usesTo_next hk, List.flatMap_append]
        simp [useOf, nmE]
      refine LoopEnd.of (k + 1) (by omega) (by omega) (weakS_mk [some 2] rfl ?_ (by simp -dsimp -implicitDefEqProofs (disch := omega) [go_sem, -List.getD_eq_getElem?_getD, ite_yes, ht]))
      simp -dsimp -implicitDefEqProofs (disch := omega) [go_sem, -List.getD_eq_getElem?_getD, ite_yes]
      exact .inl ⟨e, by rw [← e]; exact nmE_flat _⟩
    · simp -dsimp -implicitDefEqProofs (disch := omega) [go_sem, -List.getD_eq_getElem?_getD, ite_yes, hlt]
      have e := usesEnd hk' hk hlt
      have el : k - 1 = (uses l).length := by rw [← e, usesTo_length]
      rw [e, el]
      refine fin_list [some 0] rfl ?_ (by simp -dsimp -implicitDefEqProofs (disch := omega) [go_sem, -List.getD_eq_getElem?_getD, ite_yes, ht])
      simp -dsimp -implicitDefEqProofs (disch := omega) [go_sem, -List.getD_eq_getElem?_getD, ite_yes]
      exact .inl ⟨rfl, nmE_flat _⟩
/-- the sum of the first k of a list -/
def sumTo (l : List Int) (k : Nat) : Int := (l.take k).sum
theorem sumTo_next {l : List Int} {k : Nat} (h : k < l.length) : sumTo l (k + 1) = sumTo l k + l.getD k 0 := by
  unfold sumTo
  rw [List.take_succ_eq_append_getElem h, List.sum_append]
  simp [List.getD, h]
theorem sumTo_bound {l : List Int} (h : ∀ u ∈ l, 0 ≤ u ∧ u ≤ 99999) : ∀ k, k ≤ l.length → 0 ≤ sumTo l k ∧ sumTo l k ≤ 99999 * k
  | 0, _ => by simp [sumTo]
  | k + 1, hk => by
    have ih := sumTo_bound h k (by omega)
    rw [sumTo_next (by omega)]
    have : l.getD k 0 ∈ l := by simp [List.getD, show k < l.length by omega]
    have := h _ this
    omega
theorem sumInts_A (l : List Int) (hb : ∀ u ∈ l, 0 ≤ u ∧ u ≤ 99999) (hl : l.length ≤ 1048577) (c : Nat) (H : Heap) (t : Nat) (hS : Sl nmE H t l) :
    AFunC Tryd.prog 72 [.slice (some ⟨t, 0, none⟩) l.length c] H (.int .i64 l.sum) H := by
  refine AFunC.of_body Tryd.func72 (by kernel_rfl) rfl (by kernel_rfl) (by simp [Tryd.ntmps72]) ?_
  have ht := hS.lt
  have cs := fun k hk => hS.one (g := fun n => Value.int .i64 n) 0 k hk
  simp -dsimp -implicitDefEqProofs (disch := omega) [go_sem, -List.getD_eq_getElem?_getD, ite_yes]
  refine ALoop.intro (ι := Nat) (fun k => k ≤ l.length) (fun k => [(3, .int .i64 (sumTo l k)), (6, .slice (some ⟨t, 0, none⟩) l.length c), (7, .int .i64 l.length), (8, .int .i64 k)]) (fun _ => H) (fun k => l.length - k) 0 (by omega) ?_ ?_
  · exact weakS_same (by simp -dsimp -implicitDefEqProofs (disch := omega) [go_sem, -List.getD_eq_getElem?_getD, ite_yes, ht, sumTo])
  · intro k hk
    by_cases hlt : k < l.length
    · have b1 := sumTo_bound hb k (by omega)
      have b2 := sumTo_bound hb (k + 1) (by omega)
      have e := sumTo_next hlt
      simp -dsimp -implicitDefEqProofs (disch := omega) [go_sem, -List.getD_eq_getElem?_getD, ite_yes, hlt, cs]
      refine LoopEnd.of (k + 1) (by omega) (by omega) (weakS_same (by simp -dsimp -implicitDefEqProofs (disch := omega) [go_sem, -List.getD_eq_getElem?_getD, ite_yes, ht, e]))
    · simp -dsimp -implicitDefEqProofs (disch := omega) [go_sem, -List.getD_eq_getElem?_getD, ite_yes, hlt]
      obtain rfl : k = l.length := by omega
      exact fin_flat0 rfl (by simp [sumTo])
theorem l19Use_A (a b : Rd) (ha : 0 ≤ a.2 ∧ a.2 ≤ 99999) (hb : 0 ≤ b.2 ∧ b.2 ≤ 99999) (H : Heap) : AFunC Tryd.prog 70 [.agg #[.int .i64 a.1, .int .i64 a.2], .agg #[.int .i64 b.1, .int .i64 b.2]] H (.int .i64 (useOf a b)) H := by
  refine AFunC.of_body Tryd.func70 (by kernel_rfl) rfl (by kernel_rfl) (by simp [Tryd.ntmps70]) ?_
  simp -dsimp -implicitDefEqProofs (disch := omega) [go_sem, -List.getD_eq_getElem?_getD, ite_yes]
  exact fin_flat rfl (by simp [useOf])
end Go.Proofs.YthnnbgggfpempaaDoor
