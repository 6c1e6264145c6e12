/- The laws' helpers on lists of lists of numbers. -/
import Derived.Test.YtamkdgjagjpmlaaRwL
namespace Go.Proofs.Ytamkdgjagjpmlaa
open Go.Am
set_option linter.unusedVariables false
set_option linter.unusedSimpArgs false
set_option maxRecDepth 100000
set_option maxHeartbeats 4000000
/-- how many numbers the first k rows have -/
def preN (R : List Rw) : Nat → Nat
  | 0 => 0
  | k + 1 => preN R k + (R.getD k rw0).2.2.length
theorem preN_le {R : List Rw} (h : ∀ r ∈ R, r.2.2.length ≤ 8) : ∀ k, k ≤ R.length → preN R k ≤ 8 * k
  | 0, _ => by simp [preN]
  | k + 1, hk => by
    have := preN_le h k (by omega)
    have := h _ (getD_mem (d := rw0) (show k < R.length by omega))
    rw [preN]
    omega
def mkRw (k0 : Int) (R : List Rw) (k : Nat) : Rw := ((R.getD k rw0).1, (R.getD k rw0).2.1, marksNm (k0 + (preN R k : Int)) (R.getD k rw0).2.2.length)
/-- the rows of which the first k are marked -/
def mkR (k0 : Int) (R : List Rw) : Nat → List Rw
  | 0 => R
  | k + 1 => (mkR k0 R k).set k (mkRw k0 R k)
def mkH (H : Heap) (k0 : Int) (R : List Rw) : Nat → Heap
  | 0 => H
  | k + 1 => (mkH H k0 R k).set (R.getD k rw0).1 (some ⟨(mkRw k0 R k).2.2.flatMap nmE, true, 3, 1⟩)
theorem mkR_length (k0 : Int) (R : List Rw) : ∀ k, (mkR k0 R k).length = R.length
  | 0 => rfl
  | k + 1 => by rw [mkR, List.length_set, mkR_length k0 R k]
theorem mkH_length (H : Heap) (k0 : Int) (R : List Rw) : ∀ k, (mkH H k0 R k).length = H.length
  | 0 => rfl
  | k + 1 => by rw [mkH, List.length_set, mkH_length H k0 R k]
theorem mkH_get {H : Heap} {k0 : Int} {R : List Rw} {t : Nat} (h : ∀ r ∈ R, r.1 ≠ t) : ∀ k, k ≤ R.length → (mkH H k0 R k).get t = H.get t
  | 0, _ => rfl
  | k + 1, hk => by
    have := h _ (getD_mem (d := rw0) (show k < R.length by omega))
    rw [mkH, Heap.get_set_ne (fun e => this e.symm), mkH_get h k (by omega)]
theorem mkR_getD {k0 : Int} {R : List Rw} : ∀ {k i : Nat}, k ≤ R.length → i < R.length → (mkR k0 R k).getD i rw0 = if i < k then mkRw k0 R i else R.getD i rw0
  | 0, i, _, _ => rfl
  | k + 1, i, hk, hi => by
    have ih := mkR_getD (k0 := k0) (R := R) (k := k) (i := i) (by omega) hi
    have hl := mkR_length k0 R k
    rw [mkR, List.getD_eq_getElem?_getD]
    by_cases e : k = i
    · subst e
      rw [List.getElem?_set_self (by omega), if_pos (by omega)]; rfl
    · rw [List.getElem?_set_ne e, ← List.getD_eq_getElem?_getD, ih]
      by_cases h : i < k
      · rw [if_pos h, if_pos (by omega)]
      · rw [if_neg h, if_neg (by omega)]
theorem rwE_map' (R : List Rw) : R.flatMap rwE = R.map (fun r : Rw => Value.slice (some ⟨r.1, 0, none⟩) r.2.2.length r.2.1) := by
  induction R with
  | nil => rfl
  | cons x l ih => rw [List.map_cons, List.flatMap_cons, ih]; rfl
/-- one row's numbers are others, as many as before -/
theorem RowsAt.put {H : Heap} {b0 u : Nat} {R : List Rw} (h : RowsAt H b0 u R) {k : Nat} (hk : k < R.length) (l : List Int) (hl : l.length = (R.getD k rw0).2.2.length) :
    RowsAt (H.set (R.getD k rw0).1 (some ⟨l.flatMap nmE, true, 3, 1⟩)) b0 u (R.set k ((R.getD k rw0).1, (R.getD k rw0).2.1, l)) := by
  have gk : R.getD k rw0 = R[k] := by rw [List.getD_eq_getElem?_getD, List.getElem?_eq_getElem hk]; rfl
  have hx := h.row _ (getD_mem (d := rw0) hk)
  have hlt := Heap.get_lt hx.2.2
  have same : ∀ {β : Type} (g : Rw → β), g ((R.getD k rw0).1, (R.getD k rw0).2.1, l) = g (R.getD k rw0) → (R.set k ((R.getD k rw0).1, (R.getD k rw0).2.1, l)).map g = R.map g := fun g e => by
    rw [List.map_set, e, gk]
    have : g R[k] = (R.map g)[k]'(by simpa using hk) := by simp
    rw [this, List.set_getElem_self]
  refine ⟨?_, h.lo, fun r hr => ?_, ?_⟩
  · rw [Heap.get_set_ne (fun e => hx.2.1 e.symm), h.sp, rwE_map', rwE_map', same _ (by simp only [hl])]
  · obtain ⟨j, hj, e⟩ := List.getElem_of_mem hr
    rw [List.getElem_set] at e
    by_cases ej : k = j
    · rw [if_pos ej] at e
      subst e
      exact ⟨hx.1, hx.2.1, Heap.get_set_self hlt⟩
    · rw [if_neg ej] at e
      have hj' : j < R.length := by simpa using hj
      have hm : r ∈ R := e ▸ List.getElem_mem hj'
      have hr' := h.row r hm
      have hne : r.1 ≠ (R.getD k rw0).1 := by
        rw [gk, ← e]
        intro e2
        have := List.pairwise_iff_getElem.1 h.dif
        rcases Nat.lt_or_ge j k with hlt | hge
        · exact this j k (by simpa using hj') (by simpa using hk) hlt (by simpa using e2)
        · exact this k j (by simpa using hk) (by simpa using hj') (by omega) (by simpa using e2.symm)
      exact ⟨hr'.1, hr'.2.1, (Heap.get_set_ne hne).trans hr'.2.2⟩
  · rw [same (fun r => r.1) rfl]; exact h.dif
theorem RowsAt.marked {H : Heap} {b0 u : Nat} {k0 : Int} {R : List Rw} (h : RowsAt H b0 u R) : ∀ k, k ≤ R.length → RowsAt (mkH H k0 R k) b0 u (mkR k0 R k)
  | 0, _ => h
  | k + 1, hk => by
    have ih := RowsAt.marked (k0 := k0) h k (by omega)
    have hg : (mkR k0 R k).getD k rw0 = R.getD k rw0 := by rw [mkR_getD (by omega) (by omega), if_neg (by omega)]
    have := ih.put (k := k) (by rw [mkR_length]; omega) (mkRw k0 R k).2.2 (by rw [hg]; exact marksNm_length _ _)
    rw [hg] at this
    exact this
theorem mkH_vk {H : Heap} {b0 u : Nat} {k0 : Int} {R : List Rw} (h : RowsAt H b0 u R) : ∀ k, k ≤ R.length → VK H (mkH H k0 R k)
  | 0, _ => VK.refl H
  | k + 1, hk => by
    have hx := h.rlt (getD_mem (d := rw0) (show k < R.length by omega))
    exact (mkH_vk h k (by omega)).trans (VK.set (by rw [mkH_length]; exact hx) (L2.refl fun x hx => WM_flat (List.all_eq_true.1 (nmE_flat _) x hx)))
theorem eqSS_A (R S : List Rw) (b0 b1 : Nat) (hW : R.map (·.2.2) = S.map (·.2.2)) (hl : R.length ≤ 1048577) (h8 : ∀ r ∈ R, r.2.2.length ≤ 8) (c d : Nat) (H : Heap) (t u : Nat) (hR : RowsAt H b0 t R) (hS : RowsAt H b1 u S) :
    AFunC Try.prog 11 [.slice (some ⟨t, 0, none⟩) R.length c, .slice (some ⟨u, 0, none⟩) S.length d] H (.bool true) H := by
  refine AFunC.of_body Try.func11 (by kernel_rfl) rfl (by kernel_rfl) (by simp [Try.ntmps11]) ?_
  have ht := hR.lt
  have hu := hS.lt
  have hlen : S.length = R.length := by
    have := congrArg List.length hW
    simpa using this.symm
  have cs := fun k hk => hR.sl.one (g := fun r : Rw => Value.slice (some ⟨r.1, 0, none⟩) r.2.2.length r.2.1) rw0 k hk
  have cu := fun k hk => hS.sl.one (g := fun r : Rw => Value.slice (some ⟨r.1, 0, none⟩) r.2.2.length r.2.1) rw0 k hk
  rw [hlen] at cu ⊢
  simp -dsimp -implicitDefEqProofs (disch := omega) [go_sem, -List.getD_eq_getElem?_getD, ite_yes]
  refine ALoop.intro (ι := Nat) (fun k => k ≤ R.length) (fun k => [(0, .slice (some ⟨t, 0, none⟩) R.length c), (1, .slice (some ⟨u, 0, none⟩) R.length d), (5, .int .i64 k)]) (fun _ => H) (fun k => R.length - k) 0 (by omega) ?_ ?_
  · exact weakS_same (by simp -dsimp -implicitDefEqProofs (disch := omega) [go_sem, -List.getD_eq_getElem?_getD, ite_yes, ht, hu])
  · intro k hk
    by_cases hlt : k < R.length
    · have hlti : (k : Int) < (R.length : Int) := by omega
      have c1 := cs k hlt
      have c2 := cu k hlt
      have s1 := hR.at (k := k) hlt
      have s2 := hS.at (k := k) (by omega)
      have m8 := h8 _ (getD_mem (d := rw0) hlt)
      have e : (S.getD k rw0).2.2 = (R.getD k rw0).2.2 := by
        have e1 : (R.map (·.2.2)).getD k [] = (S.map (·.2.2)).getD k [] := by rw [hW]
        simp only [List.getD_eq_getElem?_getD, List.getElem?_map, List.getElem?_eq_getElem hlt, List.getElem?_eq_getElem (show k < S.length by omega), Option.map_some, Option.getD_some] at e1 ⊢
        exact e1.symm
      rw [e] at c2 s2
      generalize S.getD k rw0 = y at *
      generalize R.getD k rw0 = x at *
      have hx := s1.lt
      have hy := s2.lt
      simp -dsimp -implicitDefEqProofs (disch := omega) [go_sem, -List.getD_eq_getElem?_getD, ite_yes, hlt, hlti]
      refine ADraw.quiet (by kernel_rfl) (by kernel_rfl) (by kernel_rfl) ?_
      simp -dsimp -implicitDefEqProofs (disch := omega) [go_sem, -List.getD_eq_getElem?_getD, ite_yes, hlt, hlti, c1, c2, hx, hy]
      refine ACallQ.of (eqNmS_A x.2.2 x.2.2 (by omega) (by omega) _ _ _ _ _ s1.ro s2.ro) rfl ?_
      simp -dsimp -implicitDefEqProofs (disch := omega) [go_sem, -List.getD_eq_getElem?_getD, ite_yes, hlt, hlti]
      exact LoopEnd.of (k + 1) (by omega) (by omega) (weakS_same (by simp -dsimp -implicitDefEqProofs (disch := omega) [go_sem, -List.getD_eq_getElem?_getD, ite_yes, ht, hu]))
    · have hlti : ¬ (k : Int) < (R.length : Int) := by omega
      simp -dsimp -implicitDefEqProofs (disch := omega) [go_sem, -List.getD_eq_getElem?_getD, ite_yes, hlt, hlti]
      exact fin_flat0 rfl rfl
theorem eqSS_nil (d u : Nat) (H : Heap) : AFunC Try.prog 11 [.slice none 0 0, .slice (some ⟨u, 0, none⟩) 0 d] H (.bool true) H := by
  refine AFunC.of_body Try.func11 (by kernel_rfl) rfl (by kernel_rfl) (by simp [Try.ntmps11]) ?_
  simp -dsimp -implicitDefEqProofs (disch := omega) [go_sem, -List.getD_eq_getElem?_getD, ite_yes]
  refine ALoop.intro (ι := Unit) (fun _ => True) (fun _ => [(0, .slice none 0 0), (5, .int .i64 0)]) (fun _ => H) (fun _ => 0) () trivial ?_ ?_
  · exact weakS_same (by simp -dsimp -implicitDefEqProofs (disch := omega) [go_sem, -List.getD_eq_getElem?_getD, ite_yes])
  · intro _ _
    simp -dsimp -implicitDefEqProofs (disch := omega) [go_sem, -List.getD_eq_getElem?_getD, ite_yes]
    exact fin_flat0 rfl rfl
theorem markSS_A (R : List Rw) (b0 : Nat) (hl : R.length ≤ 1000) (h8 : ∀ r ∈ R, r.2.2.length ≤ 8) (c : Nat) (k0 : Int) (h0 : 0 ≤ k0) (h1 : k0 ≤ 1000000) (H : Heap) (u : Nat) (hR : RowsAt H b0 u R) :
    AFunC Try.prog 18 [.slice (some ⟨u, 0, none⟩) R.length c, .int .i64 k0] H (.int .i64 (k0 + (preN R R.length : Int))) (mkH H k0 R R.length) := by
  refine AFunC.of_body Try.func18 (by kernel_rfl) rfl (by kernel_rfl) (by simp [Try.ntmps18]) ?_
  have hu := hR.lt
  simp -dsimp -implicitDefEqProofs (disch := omega) [go_sem, -List.getD_eq_getElem?_getD, ite_yes]
  refine ALoop.intro (ι := Nat) (fun k => k ≤ R.length) (fun k => [(0, .slice (some ⟨u, 0, none⟩) R.length c), (1, .int .i64 (k0 + (preN R k : Int))), (5, .int .i64 k)]) (fun k => mkH H k0 R k) (fun k => R.length - k) 0 (by omega) ?_ ?_
  · exact weakS_vk (mkH_vk (k0 := k0) hR 0 (by omega)) (by simp -dsimp -implicitDefEqProofs (disch := omega) [go_sem, -List.getD_eq_getElem?_getD, ite_yes, hu, preN, mkH])
  · intro k hk
    have hlm := mkH_length H k0 R k
    have hu' : u < (mkH H k0 R k).length := by omega
    by_cases hlt : k < R.length
    · have hlti : (k : Int) < (R.length : Int) := by omega
      have hM := hR.marked (k0 := k0) k hk
      have hg : (mkR k0 R k).getD k rw0 = R.getD k rw0 := by rw [mkR_getD (by omega) (by omega), if_neg (by omega)]
      have c1 := hM.sl.one (g := fun r : Rw => Value.slice (some ⟨r.1, 0, none⟩) r.2.2.length r.2.1) rw0 k (by rw [mkR_length]; exact hlt)
      have r1 := hM.row _ (getD_mem (d := rw0) (show k < (mkR k0 R k).length by rw [mkR_length]; exact hlt))
      rw [hg] at c1 r1
      have m8 := h8 _ (getD_mem (d := rw0) hlt)
      have pl := preN_le h8 k hk
      have e : mkH H k0 R (k + 1) = (mkH H k0 R k).set (R.getD k rw0).1 (some ⟨(marksNm (k0 + (preN R k : Int)) (R.getD k rw0).2.2.length).flatMap nmE, true, 3, 1⟩) := rfl
      have ep : preN R (k + 1) = preN R k + (R.getD k rw0).2.2.length := rfl
      have vk := mkH_vk (k0 := k0) hR (k + 1) (by omega)
      have hl2 := mkH_length H k0 R (k + 1)
      have hu2 : u < (mkH H k0 R (k + 1)).length := by omega
      generalize R.getD k rw0 = x at *
      have hx := Heap.get_lt r1.2.2
      simp -dsimp -implicitDefEqProofs (disch := omega) [go_sem, -List.getD_eq_getElem?_getD, ite_yes, hlt, hlti, hu', c1, hx]
      refine ACall.of (markNmS_A x.2.2 (by omega) _ 3 (k0 + (preN R k : Int)) (by omega) (by omega) _ _ r1.2.2) ?_
      simp -dsimp -implicitDefEqProofs (disch := omega) [go_sem, -List.getD_eq_getElem?_getD, ite_yes, hlt, hlti]
      rw [← e]
      exact LoopEnd.of (k + 1) (by omega) (by omega) (weakS_vk vk (by simp -dsimp -implicitDefEqProofs (disch := omega) [go_sem, -List.getD_eq_getElem?_getD, ite_yes, hu2, ep] <;> omega))
    · have hlti : ¬ (k : Int) < (R.length : Int) := by omega
      obtain rfl : k = R.length := by omega
      simp -dsimp -implicitDefEqProofs (disch := omega) [go_sem, -List.getD_eq_getElem?_getD, ite_yes, hlti]
      exact fin_vk (mkH_vk hR _ (Nat.le_refl _)) rfl
theorem markSS_nil (k0 : Int) (H : Heap) : AFunC Try.prog 18 [.slice none 0 0, .int .i64 k0] H (.int .i64 k0) H := by
  refine AFunC.of_body Try.func18 (by kernel_rfl) rfl (by kernel_rfl) (by simp [Try.ntmps18]) ?_
  simp -dsimp -implicitDefEqProofs (disch := omega) [go_sem, -List.getD_eq_getElem?_getD, ite_yes]
  refine ALoop.intro (ι := Unit) (fun _ => True) (fun _ => [(0, .slice none 0 0), (1, .int .i64 k0), (5, .int .i64 0)]) (fun _ => H) (fun _ => 0) () trivial ?_ ?_
  · exact weakS_same (by simp -dsimp -implicitDefEqProofs (disch := omega) [go_sem, -List.getD_eq_getElem?_getD, ite_yes])
  · intro _ _
    simp -dsimp -implicitDefEqProofs (disch := omega) [go_sem, -List.getD_eq_getElem?_getD, ite_yes]
    exact fin_flat0 rfl rfl
theorem heldSS_A (R : List Rw) (b0 : Nat) (hl : R.length ≤ 1000) (h8 : ∀ r ∈ R, r.2.2.length ≤ 8) (c : Nat) (k0 : Int) (h0 : 0 ≤ k0) (h1 : k0 ≤ 1000000) (H : Heap) (u : Nat) (hR : RowsAt H b0 u (mkR k0 R R.length)) :
    AFunC Try.prog 19 [.slice (some ⟨u, 0, none⟩) R.length c, .int .i64 k0] H (.int .i64 (k0 + (preN R R.length : Int))) H := by
  refine AFunC.of_body Try.func19 (by kernel_rfl) rfl (by kernel_rfl) (by simp [Try.ntmps19]) ?_
  have hu := hR.lt
  simp -dsimp -implicitDefEqProofs (disch := omega) [go_sem, -List.getD_eq_getElem?_getD, ite_yes]
  refine ALoop.intro (ι := Nat) (fun k => k ≤ R.length) (fun k => [(0, .slice (some ⟨u, 0, none⟩) R.length c), (1, .int .i64 (k0 + (preN R k : Int))), (5, .int .i64 k)]) (fun _ => H) (fun k => R.length - k) 0 (by omega) ?_ ?_
  · exact weakS_same (by simp -dsimp -implicitDefEqProofs (disch := omega) [go_sem, -List.getD_eq_getElem?_getD, ite_yes, hu, preN])
  · intro k hk
    by_cases hlt : k < R.length
    · have hlti : (k : Int) < (R.length : Int) := by omega
      have hg : (mkR k0 R R.length).getD k rw0 = mkRw k0 R k := by rw [mkR_getD (by omega) (by omega), if_pos hlt]
      have c1 := hR.sl.one (g := fun r : Rw => Value.slice (some ⟨r.1, 0, none⟩) r.2.2.length r.2.1) rw0 k (by rw [mkR_length]; exact hlt)
      have s1 := hR.at (k := k) (by rw [mkR_length]; exact hlt)
      rw [hg] at c1 s1
      simp only [mkRw, marksNm_length] at c1 s1
      have m8 := h8 _ (getD_mem (d := rw0) hlt)
      have pl := preN_le h8 k hk
      have ep : preN R (k + 1) = preN R k + (R.getD k rw0).2.2.length := rfl
      generalize R.getD k rw0 = x at *
      have hx := s1.lt
      have hneg : ¬ k0 + (preN R k : Int) + 1 * (x.2.2.length : Int) < 0 := by omega
      simp -dsimp -implicitDefEqProofs (disch := omega) [go_sem, -List.getD_eq_getElem?_getD, ite_yes, hlt, hlti, c1, hx]
      refine ACall.of (heldNmS_A x.2.2.length (by omega) _ (k0 + (preN R k : Int)) (by omega) (by omega) _ _ s1) ?_
      simp -dsimp -implicitDefEqProofs (disch := omega) [go_sem, -List.getD_eq_getElem?_getD, ite_yes, hlt, hlti, hneg]
      first
        | refine LoopEnd.of (k + 1) (by omega) (by omega) (weakS_same (by simp -dsimp -implicitDefEqProofs (disch := omega) [go_sem, -List.getD_eq_getElem?_getD, ite_yes, hu, ep] <;> omega))
        | (refine AIf.of (fun h => absurd (of_decide_eq_true h) (by omega)) (fun _ => ?_)
           simp -dsimp -implicitDefEqProofs (disch := omega) [go_sem, -List.getD_eq_getElem?_getD, ite_yes, hlt, hlti]
           refine LoopEnd.of (k + 1) (by omega) (by omega) (weakS_same (by simp -dsimp -implicitDefEqProofs (disch := omega) [go_sem, -List.getD_eq_getElem?_getD, ite_yes, hu, ep] <;> omega)))
    · have hlti : ¬ (k : Int) < (R.length : Int) := by omega
      obtain rfl : k = R.length := by omega
      simp -dsimp -implicitDefEqProofs (disch := omega) [go_sem, -List.getD_eq_getElem?_getD, ite_yes, hlti]
      exact fin_flat0 rfl rfl
theorem heldSS_nil (k0 : Int) (H : Heap) : AFunC Try.prog 19 [.slice none 0 0, .int .i64 k0] H (.int .i64 k0) H := by
  refine AFunC.of_body Try.func19 (by kernel_rfl) rfl (by kernel_rfl) (by simp [Try.ntmps19]) ?_
  simp -dsimp -implicitDefEqProofs (disch := omega) [go_sem, -List.getD_eq_getElem?_getD, ite_yes]
  refine ALoop.intro (ι := Unit) (fun _ => True) (fun _ => [(0, .slice none 0 0), (1, .int .i64 k0), (5, .int .i64 0)]) (fun _ => H) (fun _ => 0) () trivial ?_ ?_
  · exact weakS_same (by simp -dsimp -implicitDefEqProofs (disch := omega) [go_sem, -List.getD_eq_getElem?_getD, ite_yes])
  · intro _ _
    simp -dsimp -implicitDefEqProofs (disch := omega) [go_sem, -List.getD_eq_getElem?_getD, ite_yes]
    exact fin_flat0 rfl rfl
end Go.Proofs.Ytamkdgjagjpmlaa
