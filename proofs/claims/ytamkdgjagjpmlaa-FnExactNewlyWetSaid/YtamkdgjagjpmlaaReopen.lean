/- Reopening: the shut valves, valves of which some are opened, and what is dry then. -/
import Derived.Test.YtamkdgjagjpmlaaWet
namespace Go.Proofs.Ytamkdgjagjpmlaa
open Go.Am
set_option linter.unusedVariables false
set_option linter.unusedSimpArgs false
set_option maxRecDepth 100000
set_option maxHeartbeats 4000000

/-- numbers that stand in a block from some place on -/
structure IdS (H : Heap) (t o : Nat) (l : List Int) : Prop where
  lt : t < H.length
  cs : ∀ k, k < l.length → aCells H ⟨t, o + k, none⟩ 1 = some [.int .i64 (l.getD k 0)]
theorem IdS.of {H : Heap} {t : Nat} {l : List Int} (h : Sl nmE H t l) : IdS H t 0 l :=
  ⟨h.lt, fun k hk => by rw [Nat.zero_add]; exact h.one (g := fun n => Value.int .i64 n) 0 k hk⟩
theorem IdS.app {H L : Heap} {t o : Nat} {l : List Int} (h : IdS H t o l) : IdS (H ++ L) t o l :=
  ⟨by have := h.lt; simp; omega, fun k hk => by rw [aCells_old h.lt]; exact h.cs k hk⟩
theorem IdS.ro {H : Heap} {t o : Nat} {l : List Int} (h : IdS H t o l) : IdS (roH H) t o l :=
  ⟨by rw [roH_length]; exact h.lt, fun k hk => by rw [aCells_roH]; exact h.cs k hk⟩
theorem l1HasO_A (l : List Int) (n : Int) (hl : l.length ≤ 1048577) (c : Nat) (H : Heap) (t o : Nat) (hS : IdS H t o l) :
    AFunC Try.prog 23 [.slice (some ⟨t, o, none⟩) l.length c, .int .i64 n] H (.bool (hasI l n)) H := by
  refine AFunC.of_body Try.func23 (by kernel_rfl) rfl (by kernel_rfl) (by simp [Try.ntmps23]) ?_
  have ht := hS.lt
  have cs := hS.cs
  simp -dsimp -implicitDefEqProofs (disch := omega) [go_sem, -List.getD_eq_getElem?_getD, ite_yes]
  refine ALoop.intro (ι := Nat) (fun k => k ≤ l.length ∧ ∀ i, i < k → l.getD i 0 ≠ n) (fun k => [(0, .slice (some ⟨t, o, none⟩) l.length c), (1, .int .i64 n), (5, .int .i64 k)]) (fun _ => H) (fun k => l.length - k) 0 ⟨by omega, fun i hi => by omega⟩ ?_ ?_
  · exact weakS_same (by simp -dsimp -implicitDefEqProofs (disch := omega) [go_sem, -List.getD_eq_getElem?_getD, ite_yes, ht])
  · rintro k ⟨hk, hf⟩
    by_cases hlt : k < l.length
    · by_cases h : l.getD k 0 = n
      · simp -dsimp -implicitDefEqProofs (disch := omega) [go_sem, -List.getD_eq_getElem?_getD, ite_yes, hlt, cs, h]
        exact fin_flat0 rfl (by rw [hasI_yes hlt h])
      · simp -dsimp -implicitDefEqProofs (disch := omega) [go_sem, -List.getD_eq_getElem?_getD, ite_yes, hlt, cs, h]
        refine LoopEnd.of (k + 1) ⟨by omega, fun i hi => ?_⟩ (by omega) (weakS_same (by simp -dsimp -implicitDefEqProofs (disch := omega) [go_sem, -List.getD_eq_getElem?_getD, ite_yes, ht]))
        rcases Nat.lt_or_ge i k with h' | h'
        · exact hf i h'
        · rw [show i = k by omega]; exact h
    · simp -dsimp -implicitDefEqProofs (disch := omega) [go_sem, -List.getD_eq_getElem?_getD, ite_yes, hlt]
      exact fin_flat0 rfl (by rw [hasI_no (fun i hi => hf i (by omega))])
theorem indexNm_A (l : List Int) (n : Int) (hl : l.length ≤ 1048577) (c : Nat) (H : Heap) (t o : Nat) (hS : IdS H t o l) :
    ∃ r : Int, decide (0 ≤ r) = hasI l n ∧ AFunC Try.prog 59 [.slice (some ⟨t, o, none⟩) l.length c, .int .i64 n] H (.int .i64 r) H := by
  have hr := found_ix 0 (fun x : Int => decide (x = n)) l
  refine ⟨ixOf (fun x : Int => decide (x = n)) l, ?_, ?_⟩
  · rcases ix_cases 0 (fun x : Int => decide (x = n)) l with ⟨h1, h2⟩ | ⟨q, h1, h2, h3, _⟩
    · rw [h1, hasI_no fun i hi => of_decide_eq_false (h2 i hi)]; rfl
    · rw [h1, hasI_yes h2 (of_decide_eq_true h3), decide_eq_true (by omega)]
  generalize ixOf (fun x : Int => decide (x = n)) l = r at hr
  refine AFunC.of_body Try.func59 (by kernel_rfl) rfl (by kernel_rfl) (by simp [Try.ntmps59]) ?_
  have ht := hS.lt
  have cs := hS.cs
  simp -dsimp -implicitDefEqProofs (disch := omega) [go_sem, -List.getD_eq_getElem?_getD, ite_yes]
  refine ALoop.intro (ι := Nat) (fun k => k ≤ l.length ∧ findTo 0 (fun x : Int => decide (x = n)) l k) (fun k => [(0, .slice (some ⟨t, o, none⟩) l.length c), (1, .int .i64 n), (7, .int .i64 l.length), (8, .int .i64 k)]) (fun _ => H) (fun k => l.length - k) 0 ⟨by omega, fun i hi => by omega⟩ ?_ ?_
  · exact weakS_same (by simp -dsimp -implicitDefEqProofs (disch := omega) [go_sem, -List.getD_eq_getElem?_getD, ite_yes, ht])
  · rintro k ⟨hk, hf⟩
    by_cases hlt : k < l.length
    · by_cases h : l.getD k 0 = n
      · have h' := h.symm
        simp -dsimp -implicitDefEqProofs (disch := omega) [go_sem, -List.getD_eq_getElem?_getD, ite_yes, hlt, cs, h']
        exact fin_flat0 rfl (by rw [found_uniq hr (.yes k hlt (decide_eq_true h) hf)])
      · have h' : ¬ n = l.getD k 0 := fun e => h e.symm
        simp -dsimp -implicitDefEqProofs (disch := omega) [go_sem, -List.getD_eq_getElem?_getD, ite_yes, hlt, cs, h']
        exact LoopEnd.of (k + 1) ⟨by omega, hf.next (decide_eq_false h)⟩ (by omega) (weakS_same (by simp -dsimp -implicitDefEqProofs (disch := omega) [go_sem, -List.getD_eq_getElem?_getD, ite_yes, ht]))
    · simp -dsimp -implicitDefEqProofs (disch := omega) [go_sem, -List.getD_eq_getElem?_getD, ite_yes, hlt]
      obtain rfl : k = l.length := by omega
      exact fin_flat0 rfl (by rw [found_uniq hr (.no hf)])
theorem containsNm_A (l : List Int) (n : Int) (hl : l.length ≤ 1048577) (c : Nat) (H : Heap) (t o : Nat) (hS : IdS H t o l) :
    AFunC Try.prog 46 [.slice (some ⟨t, o, none⟩) l.length c, .int .i64 n] H (.bool (hasI l n)) H := by
  obtain ⟨r, hr, A⟩ := indexNm_A l n hl c H t o hS
  refine AFunC.of_body Try.func46 (by kernel_rfl) rfl (by kernel_rfl) (by simp [Try.ntmps46]) ?_
  have ht := hS.lt
  simp -dsimp -implicitDefEqProofs (disch := omega) [go_sem, -List.getD_eq_getElem?_getD, ite_yes, ht]
  refine ACall.of A ?_
  simp -dsimp -implicitDefEqProofs (disch := omega) [go_sem, -List.getD_eq_getElem?_getD, ite_yes]
  exact fin_flat0 rfl (by rw [hr])
/-- the Ids of the valves below k that are shut -/
def shutTo (l : List Vl) : Nat → List Int
  | 0 => []
  | k + 1 => if (l.getD k vl0).2.2.2 then shutTo l k ++ [(l.getD k vl0).1] else shutTo l k
def shutL (l : List Vl) : List Int := shutTo l l.length
theorem shutTo_length (l : List Vl) : ∀ k, (shutTo l k).length ≤ k
  | 0 => Nat.le_refl _
  | k + 1 => by have := shutTo_length l k; rw [shutTo]; split <;> simp <;> omega
theorem shutL_length (l : List Vl) : (shutL l).length ≤ l.length := shutTo_length l _
theorem shutIds_A (l : List Vl) (hl : l.length ≤ 1048577) (c : Nat) (H : Heap) (t : Nat) (hS : Sl vlE H t l) :
    AFunC Try.prog 42 [.slice (some ⟨t, 0, none⟩) l.length c] H (.slice (some ⟨H.length, 0, none⟩) (shutL l).length 0) (H ++ [some ⟨(shutL l).flatMap nmE, true, 3, 1⟩]) := by
  refine AFunC.of_body Try.func42 (by kernel_rfl) rfl (by kernel_rfl) (by simp [Try.ntmps42]) ?_
  have ht := hS.lt
  have cs := fun k hk => hS.cells (s := 4) (fun _ => rfl) vl0 k hk
  simp only [vlE] at cs
  simp -dsimp -implicitDefEqProofs (disch := omega) [go_sem, -List.getD_eq_getElem?_getD, ite_yes, ht]
  refine ALoop.intro (ι := Nat) (fun k => k ≤ l.length) (fun k => [(3, .slice (some ⟨H.length, 0, none⟩) (shutTo l k).length 0), (7, .slice (some ⟨t, 0, none⟩) l.length c), (8, .int .i64 l.length), (9, .int .i64 k)])
    (fun k => H ++ [some ⟨(shutTo l k).flatMap nmE, true, 3, 1⟩]) (fun k => l.length - k) 0 (by omega) ?_ ?_
  · refine weakS_mk [some 0] rfl ?_ (by simp -dsimp -implicitDefEqProofs (disch := omega) [go_sem, -List.getD_eq_getElem?_getD, ite_yes, ht, shutTo])
    simp -dsimp -implicitDefEqProofs (disch := omega) [go_sem, -List.getD_eq_getElem?_getD, ite_yes, shutTo]
    exact .inl ⟨rfl, rfl⟩
  intro k hk
  have hsl := shutTo_length l k
  have hfl : ((shutTo l k).flatMap nmE).length = (shutTo l k).length := by rw [nmE_length]; omega
  by_cases hlt : k < l.length
  · have e : shutTo l (k + 1) = if (l.getD k vl0).2.2.2 then shutTo l k ++ [(l.getD k vl0).1] else shutTo l k := rfl
    have cs' := cs k hlt
    cases hh : (l.getD k vl0).2.2.2 <;> rw [hh] at e cs'
    · simp only [Bool.false_eq_true, if_false] at e
      simp -dsimp -implicitDefEqProofs (disch := omega) [go_sem, -List.getD_eq_getElem?_getD, ite_yes, hlt, ht, cs', hfl]
      refine LoopEnd.of (k + 1) (by omega) (by omega) (weakS_mk [some 0] rfl ?_ (by simp -dsimp -implicitDefEqProofs (disch := omega) [go_sem, -List.getD_eq_getElem?_getD, ite_yes, ht, e]))
      simp -dsimp -implicitDefEqProofs (disch := omega) [go_sem, -List.getD_eq_getElem?_getD, ite_yes]
      exact .inl ⟨by rw [e], nmE_flat _⟩
    · rw [if_pos rfl] at e
      simp -dsimp -implicitDefEqProofs (disch := omega) [go_sem, -List.getD_eq_getElem?_getD, ite_yes, hlt, ht, cs', hfl]
      refine ⟨by omega, LoopEnd.of (k + 1) (by omega) (by omega) (weakS_mk [some 3] rfl ?_ (by simp -dsimp -implicitDefEqProofs (disch := omega) [go_sem, -List.getD_eq_getElem?_getD, ite_yes, ht, e]))⟩
      simp -dsimp -implicitDefEqProofs (disch := omega) [go_sem, -List.getD_eq_getElem?_getD, ite_yes]
      exact .inl ⟨by rw [e, List.flatMap_append]; rfl, by rw [show List.flatMap nmE (shutTo l k) ++ [Value.int IntKind.i64 (l.getD k vl0).1] = List.flatMap nmE (shutTo l (k + 1)) by rw [e, List.flatMap_append]; rfl]; exact nmE_flat _⟩
  · obtain rfl : k = l.length := by omega
    simp -dsimp -implicitDefEqProofs (disch := omega) [go_sem, -List.getD_eq_getElem?_getD, ite_yes, hlt]
    refine fin_list [some 0] rfl ?_ (by simp -dsimp -implicitDefEqProofs (disch := omega) [go_sem, -List.getD_eq_getElem?_getD, ite_yes, shutL])
    simp -dsimp -implicitDefEqProofs (disch := omega) [go_sem, -List.getD_eq_getElem?_getD, ite_yes]
    exact .inl ⟨rfl, nmE_flat _⟩
theorem l18Shut_A (l : List Vl) (hl : l.length ≤ 1048577) (c : Nat) (H : Heap) (t : Nat) (hS : Sl vlE H t l) :
    AFunC Try.prog 34 [.slice (some ⟨t, 0, none⟩) l.length c] H (.slice (some ⟨H.length, 0, none⟩) (shutL l).length 0) (H ++ [some ⟨(shutL l).flatMap nmE, true, 3, 1⟩]) := by
  refine AFunC.of_body Try.func34 (by kernel_rfl) rfl (by kernel_rfl) (by simp [Try.ntmps34]) ?_
  have ht := hS.lt
  have c0 := fun k hk => hS.cell (s := 4) (fun _ => rfl) vl0 k 0 hk (by omega)
  have c3 := fun k hk => hS.cell (s := 4) (fun _ => rfl) vl0 k 3 hk (by omega)
  simp only [vlE, Nat.add_zero] at c0 c3
  simp -dsimp -implicitDefEqProofs (disch := omega) [go_sem, -List.getD_eq_getElem?_getD, ite_yes, ht]
  refine ALoop.intro (ι := Nat) (fun k => k ≤ l.length) (fun k => [(0, .slice (some ⟨t, 0, none⟩) l.length c), (3, .slice (some ⟨H.length, 0, none⟩) (shutTo l k).length 0), (4, .int .i64 k)])
    (fun k => H ++ [some ⟨(shutTo l k).flatMap nmE, true, 3, 1⟩]) (fun k => l.length - k) 0 (by omega) ?_ ?_
  · refine weakS_mk [some 0] rfl ?_ (by simp -dsimp -implicitDefEqProofs (disch := omega) [go_sem, -List.getD_eq_getElem?_getD, ite_yes, ht, shutTo])
    simp -dsimp -implicitDefEqProofs (disch := omega) [go_sem, -List.getD_eq_getElem?_getD, ite_yes, shutTo]
    exact .inl ⟨rfl, rfl⟩
  intro k hk
  have hsl := shutTo_length l k
  have hfl : ((shutTo l k).flatMap nmE).length = (shutTo l k).length := by rw [nmE_length]; omega
  by_cases hlt : k < l.length
  · have e : shutTo l (k + 1) = if (l.getD k vl0).2.2.2 then shutTo l k ++ [(l.getD k vl0).1] else shutTo l k := rfl
    have c0' := c0 k hlt
    have c3' := c3 k hlt
    cases hh : (l.getD k vl0).2.2.2 <;> rw [hh] at e c3' c0'
    · simp only [Bool.false_eq_true, if_false] at e
      simp -dsimp -implicitDefEqProofs (disch := omega) [go_sem, -List.getD_eq_getElem?_getD, ite_yes, hlt, ht, c0', c3', hfl]
      refine LoopEnd.of (k + 1) (by omega) (by omega) (weakS_mk [some 0] rfl ?_ (by simp -dsimp -implicitDefEqProofs (disch := omega) [go_sem, -List.getD_eq_getElem?_getD, ite_yes, ht, e]))
      simp -dsimp -implicitDefEqProofs (disch := omega) [go_sem, -List.getD_eq_getElem?_getD, ite_yes]
      exact .inl ⟨by rw [e], nmE_flat _⟩
    · rw [if_pos rfl] at e
      simp -dsimp -implicitDefEqProofs (disch := omega) [go_sem, -List.getD_eq_getElem?_getD, ite_yes, hlt, ht, c0', c3', hfl]
      refine ⟨by omega, LoopEnd.of (k + 1) (by omega) (by omega) (weakS_mk [some 2] rfl ?_ (by simp -dsimp -implicitDefEqProofs (disch := omega) [go_sem, -List.getD_eq_getElem?_getD, ite_yes, ht, e]))⟩
      simp -dsimp -implicitDefEqProofs (disch := omega) [go_sem, -List.getD_eq_getElem?_getD, ite_yes]
      exact .inl ⟨by rw [e, List.flatMap_append]; rfl, by rw [show List.flatMap nmE (shutTo l k) ++ [Value.int IntKind.i64 (l.getD k vl0).1] = List.flatMap nmE (shutTo l (k + 1)) by rw [e, List.flatMap_append]; rfl]; exact nmE_flat _⟩
  · obtain rfl : k = l.length := by omega
    simp -dsimp -implicitDefEqProofs (disch := omega) [go_sem, -List.getD_eq_getElem?_getD, ite_yes, hlt]
    refine fin_list [some 0] rfl ?_ (by simp -dsimp -implicitDefEqProofs (disch := omega) [go_sem, -List.getD_eq_getElem?_getD, ite_yes, shutL])
    simp -dsimp -implicitDefEqProofs (disch := omega) [go_sem, -List.getD_eq_getElem?_getD, ite_yes]
    exact .inl ⟨rfl, nmE_flat _⟩
/-- a valve that is opened if its Id is among some -/
def opV (ids : List Int) (v : Vl) : Vl := (v.1, v.2.1, v.2.2.1, v.2.2.2 && !hasI ids v.1)
def opTo (l : List Vl) (ids : List Int) : Nat → List Vl
  | 0 => l
  | k + 1 => (opTo l ids k).set k (opV ids (l.getD k vl0))
def opL (l : List Vl) (ids : List Int) : List Vl := opTo l ids l.length
theorem opTo_length (l : List Vl) (ids : List Int) : ∀ k, (opTo l ids k).length = l.length
  | 0 => rfl
  | k + 1 => by rw [opTo, List.length_set, opTo_length l ids k]
theorem opL_length (l : List Vl) (ids : List Int) : (opL l ids).length = l.length := opTo_length l ids _
theorem getD_set_vl {l : List Vl} {i j : Nat} {x : Vl} (hi : i < l.length) : (l.set i x).getD j vl0 = if i = j then x else l.getD j vl0 := by
  simp only [List.getD_eq_getElem?_getD, List.getElem?_set]
  split
  · rename_i h; subst h; simp [hi]
  · rfl
theorem opTo_getD (l : List Vl) (ids : List Int) : ∀ (k : Nat), k ≤ l.length → ∀ i, (opTo l ids k).getD i vl0 = if i < k then opV ids (l.getD i vl0) else l.getD i vl0
  | 0, _, i => by simp [opTo]
  | k + 1, hk, i => by
    rw [opTo, getD_set_vl (by rw [opTo_length]; omega), opTo_getD l ids k (by omega) i]
    by_cases h1 : k = i
    · subst h1; rw [if_pos rfl, if_pos (by omega)]
    · rw [if_neg h1]
      by_cases h2 : i < k
      · rw [if_pos h2, if_pos (by omega)]
      · rw [if_neg h2, if_neg (by omega)]
theorem opL_getD (l : List Vl) (ids : List Int) {i : Nat} (hi : i < l.length) : (opL l ids).getD i vl0 = opV ids (l.getD i vl0) := by
  rw [opL, opTo_getD l ids _ (Nat.le_refl _), if_pos hi]
theorem opTo_next (l : List Vl) (ids : List Int) {k : Nat} (hk : k < l.length) : opTo l ids (k + 1) = (opTo l ids k).set k (opV ids ((opTo l ids k).getD k vl0)) := by
  rw [opTo, opTo_getD l ids k (by omega), if_neg (by omega)]
theorem opened_A (l : List Vl) (hl : l.length ≤ 1048577) (c : Nat) (ids : List Int) (hi : ids.length ≤ 1048577) (d o : Nat) (H : Heap) (t u : Nat) (hS : Sl vlE H t l) (hU : IdS H u o ids) :
    AFunC Try.prog 28 [.slice (some ⟨t, 0, none⟩) l.length c, .slice (some ⟨u, o, none⟩) ids.length d] H (.slice (some ⟨H.length, 0, none⟩) l.length 0) (H ++ [some ⟨(opL l ids).flatMap vlE, true, 54, 4⟩]) := by
  refine AFunC.of_body Try.func28 (by kernel_rfl) rfl (by kernel_rfl) (by simp [Try.ntmps28]) ?_
  have ht := hS.lt
  have hu := hU.lt
  have al := hS.all (s := 4) (fun _ => rfl)
  simp -dsimp -implicitDefEqProofs (disch := omega) [go_sem, -List.getD_eq_getElem?_getD, ite_yes, ht, hu, al]
  refine ⟨by omega, ?_⟩
  refine ALoop.intro (ι := Nat) (fun k => k ≤ l.length) (fun k => [(1, .slice (some ⟨u, o, none⟩) ids.length d), (5, .slice (some ⟨H.length, 0, none⟩) l.length 0), (11, .int .i64 l.length), (12, .int .i64 k)])
    (fun k => H ++ [some ⟨(opTo l ids k).flatMap vlE, true, 54, 4⟩]) (fun k => l.length - k) 0 (by omega) ?_ ?_
  · refine weakS_mk [some 1] rfl ?_ (by simp -dsimp -implicitDefEqProofs (disch := omega) [go_sem, -List.getD_eq_getElem?_getD, ite_yes, ht, hu])
    simp -dsimp -implicitDefEqProofs (disch := omega) [go_sem, -List.getD_eq_getElem?_getD, ite_yes, opTo]
    exact .inl ⟨rfl, vlE_flat _⟩
  intro k hk
  by_cases hlt : k < l.length
  · have e := opTo_next l ids hlt
    have ol := opTo_length l ids k
    generalize opTo l ids k = m at *
    have hS' : Sl vlE (H ++ [some ⟨m.flatMap vlE, true, 54, 4⟩]) H.length m := Sl.of rfl
    have c0 := hS'.cell (s := 4) (fun _ => rfl) vl0 k 0 (by omega) (by omega)
    have c3 := hS'.cell (s := 4) (fun _ => rfl) vl0 k 3 (by omega) (by omega)
    have sc := set_cell (f := vlE) (s := 4) (l := m) (i := k) (fun _ => rfl) (opV ids (m.getD k vl0)) vl0 (by omega) (j := 3) (by omega) (v := .bool ((m.getD k vl0).2.2.2 && !hasI ids (m.getD k vl0).1)) rfl
    simp only [vlE, Nat.add_zero] at c0 c3
    have hml : (m.flatMap vlE).length = l.length * 4 := by rw [vlE_length, ol]
    have hk4 : k * 4 + 3 < l.length * 4 := by omega
    simp -dsimp -implicitDefEqProofs (disch := omega) [go_sem, -List.getD_eq_getElem?_getD, ite_yes, hlt, ht, hu, c0, c3, hml]
    refine AIf.of (fun h => ?_) (fun h => ?_)
    · simp -dsimp -implicitDefEqProofs (disch := omega) [go_sem, -List.getD_eq_getElem?_getD, ite_yes, hlt, ht, hu, c0, c3, hml]
      refine ACall.of (containsNm_A ids (m.getD k vl0).1 hi d _ u o hU.app) ?_
      simp -dsimp -implicitDefEqProofs (disch := omega) [go_sem, -List.getD_eq_getElem?_getD, ite_yes, hlt, ht, hu, hml]
      refine LoopEnd.of (k + 1) (by omega) (by omega) (weakS_mk [some 0] rfl ?_ (by simp -dsimp -implicitDefEqProofs (disch := omega) [go_sem, -List.getD_eq_getElem?_getD, ite_yes, ht, hu]))
      rw [h, Bool.true_and] at sc
      simp -dsimp -implicitDefEqProofs (disch := omega) [go_sem, -List.getD_eq_getElem?_getD, ite_yes]
      exact .inl ⟨by rw [e, sc], by rw [sc]; exact vlE_flat _⟩
    · rw [h, Bool.false_and] at sc
      simp -dsimp -implicitDefEqProofs (disch := omega) [go_sem, -List.getD_eq_getElem?_getD, ite_yes, hlt, ht, hu, c0, c3, hml]
      refine LoopEnd.of (k + 1) (by omega) (by omega) (weakS_mk [some 0] rfl ?_ (by simp -dsimp -implicitDefEqProofs (disch := omega) [go_sem, -List.getD_eq_getElem?_getD, ite_yes, ht, hu]))
      simp -dsimp -implicitDefEqProofs (disch := omega) [go_sem, -List.getD_eq_getElem?_getD, ite_yes]
      exact .inl ⟨by rw [e, sc], by rw [sc]; exact vlE_flat _⟩
  · obtain rfl : k = l.length := by omega
    simp -dsimp -implicitDefEqProofs (disch := omega) [go_sem, -List.getD_eq_getElem?_getD, ite_yes, hlt]
    refine fin_list [some 0] rfl ?_ (by simp -dsimp -implicitDefEqProofs (disch := omega) [go_sem, -List.getD_eq_getElem?_getD, ite_yes])
    simp -dsimp -implicitDefEqProofs (disch := omega) [go_sem, -List.getD_eq_getElem?_getD, ite_yes]
    exact .inl ⟨rfl, vlE_flat _⟩
end Go.Proofs.Ytamkdgjagjpmlaa
