/- IsOrder: both sides. -/
import Derived.Test.YtamkdgjagjpmlaaSort2
import Derived.Test.YtamkdgjagjpmlaaMoveCopy
namespace Go.Proofs.Ytamkdgjagjpmlaa
open Go.Am
set_option linter.unusedVariables false
set_option linter.unusedSimpArgs false
set_option maxRecDepth 100000
set_option maxHeartbeats 4000000

/-- whether numbers are the shut valves in some order -/
def ordTo (l : List Vl) (a : List Int) (k : Nat) : Prop := ∀ i, i < k → hasI (shutL l) (a.getD i 0) = true ∧ hasI (a.take i) (a.getD i 0) = false
instance ordTo_dec (l : List Vl) (a : List Int) (k : Nat) : Decidable (ordTo l a k) := by unfold ordTo; infer_instance
def ordB (l : List Vl) (a : List Int) : Bool := decide (a.length = (shutL l).length) && decide (ordTo l a a.length)
def isOrd (n : Int) (ps : List Pp) (l : List Vl) (src : Int) (a : List Int) : Bool := askR n ps l src && ordB l a
theorem nodup_of {a : List Int} (h : ∀ i, i < a.length → hasI (a.take i) (a.getD i 0) = false) : a.Nodup := by
  refine List.pairwise_iff_getElem.2 fun i j hi hj hij e => ?_
  have := of_decide_eq_false (h j hj)
  refine this (List.mem_iff_getElem.2 ⟨i, by rw [List.length_take]; omega, ?_⟩)
  rw [List.getElem_take, e, List.getD_eq_getElem?_getD, List.getElem?_eq_getElem hj]; rfl
theorem of_nodup {a : List Int} (h : a.Nodup) {i : Nat} (hi : i < a.length) : hasI (a.take i) (a.getD i 0) = false := by
  refine decide_eq_false fun hm => ?_
  obtain ⟨j, hj, e⟩ := List.mem_iff_getElem.1 hm
  rw [List.length_take] at hj
  rw [List.getElem_take, List.getD_eq_getElem?_getD, List.getElem?_eq_getElem hi] at e
  exact List.pairwise_iff_getElem.1 h j i (by omega) hi (by omega) e
theorem perm_of_sub : ∀ {a b : List Int}, a.Nodup → (∀ x ∈ a, x ∈ b) → b.length ≤ a.length → a.Perm b
  | [], b, _, _, h => by
    have : b = [] := List.length_eq_zero_iff.1 (by simpa using h)
    rw [this]
  | x :: a, b, hn, hs, hl => by
    have hn' := List.pairwise_cons.1 hn
    obtain ⟨s, t, rfl⟩ := List.append_of_mem (hs x (by simp))
    have : a.Perm (s ++ t) := perm_of_sub hn'.2 (fun y hy => by
      have := hs y (List.mem_cons_of_mem _ hy)
      rcases List.mem_append.1 this with h | h
      · exact List.mem_append_left _ h
      · rcases List.mem_cons.1 h with rfl | h
        · exact absurd rfl (hn'.1 y hy)
        · exact List.mem_append_right _ h) (by simp at hl ⊢; omega)
    exact (List.Perm.cons x this).trans List.perm_middle.symm
theorem vl_asc {n : Int} {ps : List Pp} {l : List Vl} (h : goodV n ps l = true) : ∀ (i d : Nat), i + d + 1 < l.length → (l.getD i vl0).1 < (l.getD (i + d + 1) vl0).1
  | i, d, hi => by
    have st : ∀ j, j + 1 < l.length → (l.getD j vl0).1 < (l.getD (j + 1) vl0).1 := fun j hj => by
      unfold goodV at h
      simp only [Bool.and_eq_true, decide_eq_true_eq] at h
      have := h.2.2 (j + 1) hj
      unfold oneV at this
      simp only [Bool.and_eq_true, Bool.not_eq_true', Bool.and_eq_false_iff, decide_eq_false_iff_not, Nat.add_sub_cancel] at this
      rcases this.2.1 with h1 | h1
      · omega
      · omega
    induction d with
    | zero => exact st i hi
    | succ d ih => have := ih (by omega); have := st (i + d + 1) (by omega); rw [show i + (d + 1) + 1 = i + d + 1 + 1 by omega]; omega
theorem shutTo_up {n : Int} {ps : List Pp} {l : List Vl} (h : goodV n ps l = true) : ∀ k, k ≤ l.length → Up (shutTo l k) ∧ ∀ x ∈ shutTo l k, ∃ i, i < k ∧ x = (l.getD i vl0).1
  | 0, _ => ⟨List.Pairwise.nil, fun x hx => absurd hx (by simp [shutTo])⟩
  | k + 1, hk => by
    obtain ⟨h1, h2⟩ := shutTo_up h k (by omega)
    rw [shutTo]
    split
    · refine ⟨List.pairwise_append.2 ⟨h1, List.pairwise_singleton _ _, fun x hx y hy => ?_⟩, fun x hx => ?_⟩
      · obtain ⟨i, hi, rfl⟩ := h2 x hx
        rw [List.mem_singleton.1 hy]
        obtain ⟨d, rfl⟩ : ∃ d, k = i + d + 1 := ⟨k - i - 1, by omega⟩
        exact vl_asc h i d (by omega)
      · rcases List.mem_append.1 hx with hx | hx
        · obtain ⟨i, hi, e⟩ := h2 x hx
          exact ⟨i, by omega, e⟩
        · exact ⟨k, by omega, List.mem_singleton.1 hx⟩
    · refine ⟨h1, fun x hx => ?_⟩
      obtain ⟨i, hi, e⟩ := h2 x hx
      exact ⟨i, by omega, e⟩
theorem ordB_perm {l : List Vl} {a : List Int} (h : ordB l a = true) : a.Perm (shutL l) := by
  unfold ordB at h
  simp only [Bool.and_eq_true, decide_eq_true_eq] at h
  refine perm_of_sub (nodup_of fun i hi => (h.2 i hi).2) (fun x hx => ?_) (by omega)
  obtain ⟨i, hi, e⟩ := List.mem_iff_getElem.1 hx
  have := of_decide_eq_true (h.2 i hi).1
  rwa [List.getD_eq_getElem?_getD, List.getElem?_eq_getElem hi, Option.getD_some, e] at this
theorem ordB_sorted {n : Int} {ps : List Pp} {l : List Vl} (hg : goodV n ps l = true) {a m : List Int} (hm : m.Perm a) (hs : Srt m) : decide (m = shutL l) = ordB l a := by
  have hu := (shutTo_up hg l.length (Nat.le_refl _)).1
  cases ho : ordB l a
  · refine decide_eq_false fun e => ?_
    have hp : a.Perm (shutL l) := by rw [← e]; exact hm.symm
    have hnd : a.Nodup := hp.nodup_iff.2 (hu.imp fun h => by omega)
    have : ordB l a = true := by
      unfold ordB
      have h2 : ordTo l a a.length := fun i hi => ⟨by
        refine decide_eq_true (hp.mem_iff.1 ?_)
        rw [List.getD_eq_getElem?_getD, List.getElem?_eq_getElem hi]
        exact List.getElem_mem hi, of_nodup hnd hi⟩
      rw [decide_eq_true hp.length_eq, decide_eq_true h2]; rfl
    rw [this] at ho; cases ho
  · exact decide_eq_true (srt_perm_eq (hm.trans (ordB_perm ho)) hs (hu.imp fun h => by omega))
theorem iIsOrder_A (n : Int) (ps : List Pp) (hps : ps.length ≤ 1048577) (cp : Nat) (l : List Vl) (hl : l.length ≤ 1048577) (c : Nat) (src : Int) (a : List Int) (ha : a.length ≤ 1048577) (d : Nat) (H : Heap) (tp t u : Nat) (hP : Sl ppE H tp ps) (hS : Sl vlE H t l) (hU : Sl nmE H u a) :
    AFunC Try.prog 26 [netV n tp ps.length cp, .slice (some ⟨t, 0, none⟩) l.length c, .int .i64 src, .slice (some ⟨u, 0, none⟩) a.length d] H (.bool (isOrd n ps l src a)) H := by
  refine AFunC.of_body Try.func26 (by kernel_rfl) rfl (by kernel_rfl) (by simp [Try.ntmps26]) ?_
  have htp := hP.lt
  have ht := hS.lt
  have hu := hU.lt
  simp -dsimp -implicitDefEqProofs (disch := omega) [go_sem, -List.getD_eq_getElem?_getD, ite_yes, htp, ht, hu]
  refine ACall.of (canReopen_A n ps hps cp l hl c src _ tp t hP.app hS.app) ?_
  cases hq : askR n ps l src
  · simp -dsimp -implicitDefEqProofs (disch := omega) [go_sem, -List.getD_eq_getElem?_getD, ite_yes]
    exact fin_flat rfl (by rw [isOrd, hq, Bool.false_and])
  obtain ⟨hg, hN, hl10, hsrc, hs6⟩ := askR_at hq
  by_cases h10 : 10 < a.length
  · have h10' : (10 : Int) < (a.length : Int) := by omega
    simp -dsimp -implicitDefEqProofs (disch := omega) [go_sem, -List.getD_eq_getElem?_getD, ite_yes, h10, h10']
    exact fin_flat rfl (by rw [isOrd, hq, ordB, decide_eq_false (by omega)]; rfl)
  have h10' : ¬ (10 : Int) < (a.length : Int) := by omega
  simp -dsimp -implicitDefEqProofs (disch := omega) [go_sem, -List.getD_eq_getElem?_getD, ite_yes, h10, h10', htp, ht, hu]
  refine ACall.of (copyInts_A a ha d _ u hU.app) ?_
  simp -dsimp -implicitDefEqProofs (disch := omega) [go_sem, -List.getD_eq_getElem?_getD, ite_yes, htp, ht, hu]
  refine ACall.via (sort_R a (by omega) a.length 3 _ (H.length + 1) ((Heap.get_len_add _ _ 1).trans rfl)) ?_
  rintro v G ⟨m, rfl, h1, h2, rfl⟩
  have hml := h1.length_eq
  simp -dsimp -implicitDefEqProofs (disch := omega) [go_sem, -List.getD_eq_getElem?_getD, ite_yes, htp, ht, hu]
  refine ACall.of (shutIds_A l hl c _ t hS.app) ?_
  simp -dsimp -implicitDefEqProofs (disch := omega) [go_sem, -List.getD_eq_getElem?_getD, ite_yes, htp, ht, hu]
  refine ACall.of (hml ▸ equalNm_A m (shutL l) (by omega) (by omega) a.length 0 _ (H.length + 1) (H.length + 2) (Sl.of1 rfl) (Sl.nth 2 rfl rfl)) ?_
  simp -dsimp -implicitDefEqProofs (disch := omega) [go_sem, -List.getD_eq_getElem?_getD, ite_yes]
  exact fin_flat rfl (by rw [isOrd, hq, ordB_sorted hg h1 h2, Bool.true_and])
theorem l18Order_A (n : Int) (ps : List Pp) (hps : ps.length ≤ 1048577) (cp : Nat) (l : List Vl) (hl : l.length ≤ 1048577) (c : Nat) (src : Int) (a : List Int) (ha : a.length ≤ 1048577) (d : Nat) (H : Heap) (tp t u : Nat) (hP : Sl ppE H tp ps) (hS : Sl vlE H t l) (hU : Sl nmE H u a) :
    AFunC Try.prog 21 [netV n tp ps.length cp, .slice (some ⟨t, 0, none⟩) l.length c, .int .i64 src, .slice (some ⟨u, 0, none⟩) a.length d] H (.bool (isOrd n ps l src a)) H := by
  refine AFunC.of_body Try.func21 (by kernel_rfl) rfl (by kernel_rfl) (by simp [Try.ntmps21]) ?_
  have htp := hP.lt
  have ht := hS.lt
  have hu := hU.lt
  have hsl := shutL_length l
  have ca := fun k hk => hU.one (g := fun n => Value.int .i64 n) 0 k hk
  simp -dsimp -implicitDefEqProofs (disch := omega) [go_sem, -List.getD_eq_getElem?_getD, ite_yes, htp, ht, hu]
  refine ACall.of (l18Asked_A n ps hps cp l hl c src _ tp t hP.app hS.app) ?_
  cases hq : askR n ps l src
  · simp -dsimp -implicitDefEqProofs (disch := omega) [go_sem, -List.getD_eq_getElem?_getD, ite_yes]
    exact fin_flat rfl (by rw [isOrd, hq, Bool.false_and])
  obtain ⟨hg, hN, hl10, hsrc, hs6⟩ := askR_at hq
  simp -dsimp -implicitDefEqProofs (disch := omega) [go_sem, -List.getD_eq_getElem?_getD, ite_yes, htp, ht, hu]
  refine ACall.of (l18Shut_A l hl c _ t hS.app) ?_
  by_cases hlen : a.length = (shutL l).length
  rotate_left
  · have hlen' : ¬ (a.length : Int) = ((shutL l).length : Int) := by omega
    simp -dsimp -implicitDefEqProofs (disch := omega) [go_sem, -List.getD_eq_getElem?_getD, ite_yes, hlen, hlen']
    exact fin_flat rfl (by rw [isOrd, hq, ordB, decide_eq_false hlen]; rfl)
  have hlen' : (a.length : Int) = ((shutL l).length : Int) := by omega
  simp -dsimp -implicitDefEqProofs (disch := omega) [go_sem, -List.getD_eq_getElem?_getD, ite_yes, hlen, hlen', htp, ht, hu]
  refine ACall.of (l18Shut_A l hl c _ t hS.app) ?_
  simp -dsimp -implicitDefEqProofs (disch := omega) [go_sem, -List.getD_eq_getElem?_getD, ite_yes, htp, ht, hu]
  refine ALoop.intro (ι := Nat) (fun k => k ≤ a.length ∧ ordTo l a k) (fun k => [(3, .slice (some ⟨u, 0, none⟩) a.length d), (9, .slice (some ⟨H.length, 0, none⟩) (shutL l).length 0), (10, .int .i64 k)]) (fun _ => H ++ [some ⟨(shutL l).flatMap nmE, true, 3, 1⟩]) (fun k => a.length - k) 0 ⟨by omega, fun i hi => by omega⟩ ?_ ?_
  · refine weakS_mk [some 2] rfl ?_ (by simp -dsimp -implicitDefEqProofs (disch := omega) [go_sem, -List.getD_eq_getElem?_getD, ite_yes, hu]; omega)
    simp -dsimp -implicitDefEqProofs (disch := omega) [go_sem, -List.getD_eq_getElem?_getD, ite_yes]
    exact .inl ⟨rfl, nmE_flat _⟩
  rintro k ⟨hk, hf⟩
  have hno : k < a.length → (hasI (shutL l) (a.getD k 0) = false ∨ hasI (a.take k) (a.getD k 0) = true) → isOrd n ps l src a = false := fun hlt h => by
    rw [isOrd, hq, ordB, decide_eq_false (p := ordTo l a a.length) (fun h' => ?_)]
    · simp
    · have := h' k hlt
      rcases h with h | h
      · rw [this.1] at h; cases h
      · rw [this.2] at h; cases h
  by_cases hlt : k < a.length
  · have hltn : (k : Int) < (a.length : Int) := by omega
    have c1 := ca k hlt
    have hS2 : Sl nmE (H ++ [some ⟨(shutL l).flatMap nmE, true, 3, 1⟩]) H.length (shutL l) := Sl.of rfl
    have A1 := l1Has_A (shutL l) (a.getD k 0) (by omega) 0 _ H.length hS2.ro
    have A2 := l1Has_A (a.take k) (a.getD k 0) (by rw [List.length_take]; omega) k _ u ((hU.app (L := [some ⟨(shutL l).flatMap nmE, true, 3, 1⟩])).take k).ro
    rw [List.length_take_of_le hk] at A2
    have hz0 : ∀ x : Nat, (x = 0 ∨ x = x) := fun _ => .inr rfl
    simp -dsimp -implicitDefEqProofs (disch := omega) [go_sem, -List.getD_eq_getElem?_getD, ite_yes, hlt, hltn, hu]
    refine ADraw.quiet (by kernel_rfl) (by kernel_rfl) (by kernel_rfl) ?_
    simp -dsimp -implicitDefEqProofs (disch := omega) [go_sem, -List.getD_eq_getElem?_getD, ite_yes, hlt, hltn, hk, c1, hu]
    refine ACallQ.of A1 rfl ?_
    cases e1 : hasI (shutL l) (a.getD k 0)
    · simp -dsimp -implicitDefEqProofs (disch := omega) [go_sem, -List.getD_eq_getElem?_getD, ite_yes]
      exact fin_flat rfl (by rw [hno hlt (.inl e1)])
    simp -dsimp -implicitDefEqProofs (disch := omega) [go_sem, -List.getD_eq_getElem?_getD, ite_yes, hlt, hltn, hk, c1, hu]
    refine ACallQ.of A2 rfl ?_
    cases e2 : hasI (a.take k) (a.getD k 0)
    · simp -dsimp -implicitDefEqProofs (disch := omega) [go_sem, -List.getD_eq_getElem?_getD, ite_yes, hltn]
      refine LoopEnd.of (k + 1) ⟨by omega, fun i hi => ?_⟩ (by omega) (weakS_mk [some 0] rfl ?_ (by simp -dsimp -implicitDefEqProofs (disch := omega) [go_sem, -List.getD_eq_getElem?_getD, ite_yes, hu]))
      · rcases Nat.lt_or_ge i k with h' | h'
        · exact hf i h'
        · rw [show i = k by omega]; exact ⟨e1, e2⟩
      · simp -dsimp -implicitDefEqProofs (disch := omega) [go_sem, -List.getD_eq_getElem?_getD, ite_yes]
        exact .inl ⟨rfl, nmE_flat _⟩
    · simp -dsimp -implicitDefEqProofs (disch := omega) [go_sem, -List.getD_eq_getElem?_getD, ite_yes]
      exact fin_flat rfl (by rw [hno hlt (.inr e2)])
  · have hltn : ¬ (k : Int) < (a.length : Int) := by omega
    obtain rfl : k = a.length := by omega
    simp -dsimp -implicitDefEqProofs (disch := omega) [go_sem, -List.getD_eq_getElem?_getD, ite_yes, hltn]
    exact fin_flat rfl (by rw [isOrd, hq, ordB, decide_eq_true hlen, decide_eq_true hf]; rfl)
end Go.Proofs.Ytamkdgjagjpmlaa
