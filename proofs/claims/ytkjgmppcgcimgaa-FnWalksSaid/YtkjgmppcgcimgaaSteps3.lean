/- Steps between nodes: the reference's rounds. -/
import Derived.Test.YtkjgmppcgcimgaaSteps2
namespace Go.Proofs.Ytkjgmppcgcimgaa
open Go.Am
set_option linter.unusedVariables false
set_option linter.unusedSimpArgs false
set_option maxRecDepth 100000
set_option maxHeartbeats 2000000

def insI (l : List Int) (n : Int) : List Int := if hasI l n = true then l else putL l n
theorem insI_in {l : List Int} {n : Int} (h : hasI l n = true) : insI l n = l := if_pos h
theorem insI_new {l : List Int} {n : Int} (h : hasI l n = false) : insI l n = putL l n := by rw [insI, h]; rfl
theorem hasI_ins (l : List Int) (n m : Int) : hasI (insI l n) m = (decide (m = n) || hasI l m) := by
  cases h : hasI l n with
  | true =>
    rw [insI_in h]
    by_cases e : m = n
    · subst e; rw [h]; simp
    · simp [e]
  | false => rw [insI_new h, hasI_put]
theorem insI_len (l : List Int) (n : Int) : (insI l n).length ≤ l.length + 1 := by
  unfold insI
  split
  · omega
  · rw [putL_length]; exact Nat.le_refl _
theorem Up.insI {l : List Int} {n : Int} (h : Up l) : Up (insI l n) := by
  cases e : hasI l n with
  | true => rw [insI_in e]; exact h
  | false => rw [insI_new e]; exact h.put (of_decide_eq_false e)
def insA (near m : List Int) (a b : Int) : List Int := if hasI near a = true then insI m b else m
theorem insA_yes {near m : List Int} {a b : Int} (h : hasI near a = true) : insA near m a b = insI m b := if_pos h
theorem insA_no {near m : List Int} {a b : Int} (h : hasI near a = false) : insA near m a b = m := by rw [insA, h]; rfl
theorem hasI_insA (near m : List Int) (a b v : Int) : hasI (insA near m a b) v = true ↔ hasI m v = true ∨ v = b ∧ hasI near a = true := by
  cases h : hasI near a with
  | true => rw [insA_yes h, hasI_ins, Bool.or_eq_true, decide_eq_true_eq]; simp [or_comm]
  | false => rw [insA_no h]; simp
theorem insA_len (near m : List Int) (a b : Int) : (insA near m a b).length ≤ m.length + 1 := by
  unfold insA
  split
  · exact insI_len _ _
  · omega
theorem Up.insA {near m : List Int} {a b : Int} (h : Up m) : Up (insA near m a b) := by
  unfold Go.Proofs.Ytkjgmppcgcimgaa.insA
  split
  · exact h.insI
  · exact h
def nextTo (ps : List Pp) (near : List Int) : Nat → List Int
  | 0 => near
  | i + 1 => insA near (insA near (nextTo ps near i) (ps.getD i pp0).2.1 (ps.getD i pp0).2.2.1) (ps.getD i pp0).2.2.1 (ps.getD i pp0).2.1
theorem nextTo_up {ps : List Pp} {near : List Int} (h : Up near) : ∀ i, Up (nextTo ps near i)
  | 0 => h
  | i + 1 => ((nextTo_up h i).insA).insA
theorem nextTo_len (ps : List Pp) (near : List Int) : ∀ i, (nextTo ps near i).length ≤ near.length + 2 * i
  | 0 => Nat.le_refl _
  | i + 1 => by
    have := nextTo_len ps near i
    have h1 := insA_len near (nextTo ps near i) (ps.getD i pp0).2.1 (ps.getD i pp0).2.2.1
    have h2 := insA_len near (insA near (nextTo ps near i) (ps.getD i pp0).2.1 (ps.getD i pp0).2.2.1) (ps.getD i pp0).2.2.1 (ps.getD i pp0).2.1
    rw [nextTo]
    omega
theorem nextTo_has (ps : List Pp) (near : List Int) (v : Int) : ∀ k, hasI (nextTo ps near k) v = true ↔ hasI near v = true ∨ ∃ i, i < k ∧ ((ps.getD i pp0).2.1 = v ∧ hasI near (ps.getD i pp0).2.2.1 = true ∨ (ps.getD i pp0).2.2.1 = v ∧ hasI near (ps.getD i pp0).2.1 = true)
  | 0 => by simp [nextTo]
  | k + 1 => by
    rw [nextTo, hasI_insA, hasI_insA, nextTo_has ps near v k]
    constructor
    · rintro (((h | ⟨i, hi, h⟩) | ⟨h1, h2⟩) | ⟨h1, h2⟩)
      · exact .inl h
      · exact .inr ⟨i, by omega, h⟩
      · exact .inr ⟨k, by omega, .inr ⟨h1.symm, h2⟩⟩
      · exact .inr ⟨k, by omega, .inl ⟨h1.symm, h2⟩⟩
    · rintro (h | ⟨i, hi, h⟩)
      · exact .inl (.inl (.inl h))
      · rcases Nat.lt_or_ge i k with hik | hik
        · exact .inl (.inl (.inr ⟨i, hik, h⟩))
        · obtain rfl : i = k := by omega
          rcases h with ⟨h1, h2⟩ | ⟨h1, h2⟩
          · exact .inr ⟨h1.symm, h2⟩
          · exact .inl (.inr ⟨h1.symm, h2⟩)
def nearTo (ps : List Pp) (src : Int) : Nat → List Int
  | 0 => [src]
  | k + 1 => nextTo ps (nearTo ps src k) ps.length
theorem nearTo_up (ps : List Pp) (src : Int) : ∀ k, Up (nearTo ps src k)
  | 0 => up_one src
  | k + 1 => nextTo_up (nearTo_up ps src k) _
theorem nearTo_len (ps : List Pp) (src : Int) : ∀ k, (nearTo ps src k).length ≤ 1 + 2 * ps.length * k
  | 0 => Nat.le_refl _
  | k + 1 => by
    have h1 := nearTo_len ps src k
    have h2 := nextTo_len ps (nearTo ps src k) ps.length
    rw [nearTo, Nat.mul_succ]
    omega
theorem nearTo_has (ps : List Pp) (src v : Int) : ∀ k, hasI (nearTo ps src k) v = rB ps src k v := by
  intro k
  induction k generalizing v with
  | zero => simp [nearTo, hasI, rB]
  | succ k ih =>
    rw [Bool.eq_iff_iff, nearTo, nextTo_has, rB_succ, ih]
    simp only [ih]
theorem l1OwnI_A (a : List Int) (ha : a.length ≤ 1048577) (c2 : Nat) (H : Heap) (u : Nat) (hU : Sl nmE H u a) :
    AFunC Try.prog 67 [.slice (some ⟨u, 0, none⟩) a.length c2] H (.slice (some ⟨H.length, 0, none⟩) a.length a.length) (H ++ [some ⟨a.flatMap nmE, true, 3, 1⟩]) := by
  refine AFunC.of_body Try.func67 (by kernel_rfl) rfl (by kernel_rfl) (by simp [Try.ntmps67]) ?_
  have hu := hU.lt
  have al := hU.all (s := 1) (fun _ => rfl)
  rw [Nat.mul_one] at al
  simp -dsimp -implicitDefEqProofs (disch := omega) [go_sem, -List.getD_eq_getElem?_getD, ite_yes, hu, al]
  refine ⟨by omega, fin_list [some 1] rfl ?_ (by simp -dsimp -implicitDefEqProofs (disch := omega) [go_sem, -List.getD_eq_getElem?_getD, ite_yes, hu])⟩
  simp -dsimp -implicitDefEqProofs (disch := omega) [go_sem, -List.getD_eq_getElem?_getD, ite_yes]
  exact .inl ⟨rfl, nmE_flat _⟩
theorem l22Steps_A (n : Nat) (ps : List Pp) (hN : NetAt n ps) (src to : Int) (cp : Nat) (H : Heap) (tp : Nat) (hP : Sl ppE H tp ps) :
    AFunC Try.prog 53 [netV n tp ps.length cp, .int .i64 src, .int .i64 to] H (.int .i64 (distN n ps src to)) H := by
  refine AFunC.of_body Try.func53 (by kernel_rfl) rfl (by kernel_rfl) (by simp [Try.ntmps53]) ?_
  have htp := hP.lt
  have hn8 := hN.f_n
  have hm := hN.f_len
  have cp4 := fun k hk => hP.cells (s := 4) (fun _ => rfl) pp0 k hk
  simp only [ppE] at cp4
  simp -dsimp -implicitDefEqProofs (disch := omega) [go_sem, -List.getD_eq_getElem?_getD, ite_yes, htp]
  refine ALoop.intro (ι := Nat) (fun k => k ≤ n + 1 ∧ ∀ j, j < k → rB ps src j to = false) (fun k => [(2, .int .i64 to), (3, .pointer (some ⟨H.length, 0, none⟩)), (7, .slice (some ⟨H.length + 1, 0, none⟩) (nearTo ps src k).length (nearTo ps src k).length), (8, .int .i64 k)])
    (fun k => H ++ [some ⟨[.int .i64 n, .slice (some ⟨tp, 0, none⟩) ps.length cp], true, 32, 1⟩, some ⟨(nearTo ps src k).flatMap nmE, true, 3, 1⟩]) (fun k => n + 1 - k) 0 ⟨by omega, fun j hj => by omega⟩ ?_ ?_
  · refine weakS_mk [some 0, some 1] rfl ?_ (by simp -dsimp -implicitDefEqProofs (disch := omega) [go_sem, -List.getD_eq_getElem?_getD, ite_yes, htp, nearTo])
    simp -dsimp -implicitDefEqProofs (disch := omega) [go_sem, -List.getD_eq_getElem?_getD, ite_yes, htp, nearTo]
    exact ⟨wl_net htp, .inl ⟨rfl, rfl⟩⟩
  rintro k ⟨hk, hf⟩
  by_cases hkn : k ≤ n
  rotate_left
  · obtain rfl : k = n + 1 := by omega
    have hki : ¬ (n : Int) + 1 ≤ (n : Int) := by omega
    simp -dsimp -implicitDefEqProofs (disch := omega) [go_sem, -List.getD_eq_getElem?_getD, ite_yes, hki, htp]
    have : distN n ps src to = -1 := firstK_no (n + 1) 0 fun j _ hj => hf j (by omega)
    rw [this]
    exact fin_flat rfl rfl
  have hki : (k : Int) ≤ (n : Int) := by omega
  have hlen : (nearTo ps src k).length ≤ 1000000 := by
    have h1 := nearTo_len ps src k
    have h2 : 2 * ps.length * k ≤ 2 * 10 * 8 := Nat.mul_le_mul (Nat.mul_le_mul (Nat.le_refl _) hm) (by omega)
    omega
  simp -dsimp -implicitDefEqProofs (disch := omega) [go_sem, -List.getD_eq_getElem?_getD, ite_yes, hki, htp]
  refine ACall.of (l1Has_A (nearTo ps src k) to (by omega) _ _ _ (Sl.nth 1 rfl rfl)) ?_
  rw [nearTo_has]
  cases hr : rB ps src k to
  rotate_left
  · simp -dsimp -implicitDefEqProofs (disch := omega) [go_sem, -List.getD_eq_getElem?_getD, ite_yes, htp]
    have : distN n ps src to = k := firstK_yes hr (n + 1) 0 (Nat.zero_le _) (by omega) fun j _ hj => hf j hj
    rw [this]
    exact fin_flat rfl rfl
  simp -dsimp -implicitDefEqProofs (disch := omega) [go_sem, -List.getD_eq_getElem?_getD, ite_yes, htp]
  refine ACall.of (l1OwnI_A (nearTo ps src k) (by omega) _ _ _ (Sl.nth 1 rfl rfl)) ?_
  simp -dsimp -implicitDefEqProofs (disch := omega) [go_sem, -List.getD_eq_getElem?_getD, ite_yes, htp]
  have hnear := nearTo_has ps src
  have hup := nearTo_up ps src k
  have enext : nearTo ps src (k + 1) = nextTo ps (nearTo ps src k) ps.length := rfl
  generalize hNe : nearTo ps src k = near at *
  refine ALoop.intro (ι := Nat) (fun i => i ≤ ps.length) (fun i => [(2, .int .i64 to), (3, .pointer (some ⟨H.length, 0, none⟩)), (7, .slice (some ⟨H.length + 1, 0, none⟩) near.length near.length), (8, .int .i64 k), (9, .slice (some ⟨H.length + 2, 0, none⟩) (nextTo ps near i).length (nextTo ps near i).length), (10, .int .i64 i)])
    (fun i => H ++ [some ⟨[.int .i64 n, .slice (some ⟨tp, 0, none⟩) ps.length cp], true, 32, 1⟩, some ⟨near.flatMap nmE, true, 3, 1⟩, some ⟨(nextTo ps near i).flatMap nmE, true, 3, 1⟩]) (fun i => ps.length - i) 0 (Nat.zero_le _) ?_ ?_
  · refine weakS_mk [some 0, some 1, some 2] rfl ?_ (by simp -dsimp -implicitDefEqProofs (disch := omega) [go_sem, -List.getD_eq_getElem?_getD, ite_yes, htp, nextTo])
    simp -dsimp -implicitDefEqProofs (disch := omega) [go_sem, -List.getD_eq_getElem?_getD, ite_yes, htp, nextTo]
    exact ⟨wl_net htp, .inl ⟨rfl, nmE_flat _⟩⟩
  intro i hi
  by_cases hlt : i < ps.length
  rotate_left
  · obtain rfl : i = ps.length := by omega
    simp -dsimp -implicitDefEqProofs (disch := omega) [go_sem, -List.getD_eq_getElem?_getD, ite_yes, htp]
    refine LoopEnd.of (k + 1) ⟨by omega, fun j hj => ?_⟩ (by omega) (weakS_mk [some 0, some 2] rfl ?_ (by simp -dsimp -implicitDefEqProofs (disch := omega) [go_sem, -List.getD_eq_getElem?_getD, ite_yes, htp, enext]))
    · rcases Nat.lt_or_ge j k with h | h
      · exact hf j h
      · obtain rfl : j = k := by omega
        exact hr
    · simp -dsimp -implicitDefEqProofs (disch := omega) [go_sem, -List.getD_eq_getElem?_getD, ite_yes, htp, enext]
      exact ⟨wl_net htp, .inl ⟨rfl, nmE_flat _⟩⟩
  have hk4 := cp4 i hlt
  simp -dsimp -implicitDefEqProofs (disch := omega) [go_sem, -List.getD_eq_getElem?_getD, ite_yes, hlt, hk4, htp]
  -- @@
  have up0 := nextTo_up (ps := ps) hup i
  have ln := nextTo_len ps near i
  have lb : near.length + 2 * i ≤ 1048000 := by omega
  refine ACall.of (l1Has_A near (ps.getD i pp0).2.1 (by omega) _ _ _ (Sl.nth 1 rfl rfl)) ?_
  cases a0 : hasI near (ps.getD i pp0).2.1
  · simp -dsimp -implicitDefEqProofs (disch := omega) [go_sem, -List.getD_eq_getElem?_getD, ite_yes, htp]
    have up1 := up0
    refine ACall.of (l1Has_A near (ps.getD i pp0).2.2.1 (by omega) _ _ _ (Sl.nth 1 rfl rfl)) ?_
    cases a1 : hasI near (ps.getD i pp0).2.2.1
    · simp -dsimp -implicitDefEqProofs (disch := omega) [go_sem, -List.getD_eq_getElem?_getD, ite_yes, htp]
      have e : nextTo ps near (i + 1) = nextTo ps near i := by rw [nextTo, insA_no a0, insA_no a1]
      refine LoopEnd.of (i + 1) (by omega) (by omega) (weakS_mk [some 0, some 1, some 2] rfl ?_ (by rw [e]; simp -dsimp -implicitDefEqProofs (disch := omega) [go_sem, -List.getD_eq_getElem?_getD, ite_yes, htp]))
      simp only [e]
      simp -dsimp -implicitDefEqProofs (disch := omega) [go_sem, -List.getD_eq_getElem?_getD, ite_yes, htp]
      exact ⟨wl_net htp, .inl ⟨rfl, nmE_flat _⟩, .inl ⟨rfl, nmE_flat _⟩⟩
    simp -dsimp -implicitDefEqProofs (disch := omega) [go_sem, -List.getD_eq_getElem?_getD, ite_yes, htp]
    cases b1 : hasI (nextTo ps near i) (ps.getD i pp0).2.1
    rotate_left
    · refine ACall.of (l1Put_in (nextTo ps near i) (ps.getD i pp0).2.1 (by omega) (up1) b1 _ _ _ (Sl.nth 2 rfl rfl)) ?_
      simp -dsimp -implicitDefEqProofs (disch := omega) [go_sem, -List.getD_eq_getElem?_getD, ite_yes, htp]
      have e : nextTo ps near (i + 1) = nextTo ps near i := by rw [nextTo, insA_no a0, insA_yes a1, insI_in b1]
      refine LoopEnd.of (i + 1) (by omega) (by omega) (weakS_mk [some 0, some 1, some 2] rfl ?_ (by rw [e]; simp -dsimp -implicitDefEqProofs (disch := omega) [go_sem, -List.getD_eq_getElem?_getD, ite_yes, htp]))
      simp only [e]
      simp -dsimp -implicitDefEqProofs (disch := omega) [go_sem, -List.getD_eq_getElem?_getD, ite_yes, htp]
      exact ⟨wl_net htp, .inl ⟨rfl, nmE_flat _⟩, .inl ⟨rfl, nmE_flat _⟩⟩
    refine ACall.of (l1Put_new (nextTo ps near i) (ps.getD i pp0).2.1 (by omega) (up1) b1 _ _ _ (Sl.nth 2 rfl rfl) (by unfold blkSz; rw [Heap.get_len_add]; rfl)) ?_
    rw [← putL_length (nextTo ps near i) (ps.getD i pp0).2.1]
    have lp1 := putL_length (nextTo ps near i) (ps.getD i pp0).2.1
    simp -dsimp -implicitDefEqProofs (disch := omega) [go_sem, -List.getD_eq_getElem?_getD, ite_yes, htp]
    have e : nextTo ps near (i + 1) = putL (nextTo ps near i) (ps.getD i pp0).2.1 := by rw [nextTo, insA_no a0, insA_yes a1, insI_new b1]
    refine LoopEnd.of (i + 1) (by omega) (by omega) (weakS_mk [some 0, some 1, some 4] rfl ?_ (by rw [e]; simp -dsimp -implicitDefEqProofs (disch := omega) [go_sem, -List.getD_eq_getElem?_getD, ite_yes, htp, putL_length]))
    simp only [e]
    simp -dsimp -implicitDefEqProofs (disch := omega) [go_sem, -List.getD_eq_getElem?_getD, ite_yes, htp]
    exact ⟨wl_net htp, .inl ⟨rfl, nmE_flat _⟩, .inl ⟨rfl, nmE_flat _⟩⟩
  simp -dsimp -implicitDefEqProofs (disch := omega) [go_sem, -List.getD_eq_getElem?_getD, ite_yes, htp]
  cases b0 : hasI (nextTo ps near i) (ps.getD i pp0).2.2.1
  rotate_left
  · refine ACall.of (l1Put_in (nextTo ps near i) (ps.getD i pp0).2.2.1 (by omega) (up0) b0 _ _ _ (Sl.nth 2 rfl rfl)) ?_
    simp -dsimp -implicitDefEqProofs (disch := omega) [go_sem, -List.getD_eq_getElem?_getD, ite_yes, htp]
    have up1 := up0
    refine ACall.of (l1Has_A near (ps.getD i pp0).2.2.1 (by omega) _ _ _ (Sl.nth 1 rfl rfl)) ?_
    cases a1 : hasI near (ps.getD i pp0).2.2.1
    · simp -dsimp -implicitDefEqProofs (disch := omega) [go_sem, -List.getD_eq_getElem?_getD, ite_yes, htp]
      have e : nextTo ps near (i + 1) = nextTo ps near i := by rw [nextTo, insA_yes a0, insI_in b0, insA_no a1]
      refine LoopEnd.of (i + 1) (by omega) (by omega) (weakS_mk [some 0, some 1, some 2] rfl ?_ (by rw [e]; simp -dsimp -implicitDefEqProofs (disch := omega) [go_sem, -List.getD_eq_getElem?_getD, ite_yes, htp]))
      simp only [e]
      simp -dsimp -implicitDefEqProofs (disch := omega) [go_sem, -List.getD_eq_getElem?_getD, ite_yes, htp]
      exact ⟨wl_net htp, .inl ⟨rfl, nmE_flat _⟩, .inl ⟨rfl, nmE_flat _⟩⟩
    simp -dsimp -implicitDefEqProofs (disch := omega) [go_sem, -List.getD_eq_getElem?_getD, ite_yes, htp]
    cases b1 : hasI (nextTo ps near i) (ps.getD i pp0).2.1
    rotate_left
    · refine ACall.of (l1Put_in (nextTo ps near i) (ps.getD i pp0).2.1 (by omega) (up1) b1 _ _ _ (Sl.nth 2 rfl rfl)) ?_
      simp -dsimp -implicitDefEqProofs (disch := omega) [go_sem, -List.getD_eq_getElem?_getD, ite_yes, htp]
      have e : nextTo ps near (i + 1) = nextTo ps near i := by rw [nextTo, insA_yes a0, insI_in b0, insA_yes a1, insI_in b1]
      refine LoopEnd.of (i + 1) (by omega) (by omega) (weakS_mk [some 0, some 1, some 2] rfl ?_ (by rw [e]; simp -dsimp -implicitDefEqProofs (disch := omega) [go_sem, -List.getD_eq_getElem?_getD, ite_yes, htp]))
      simp only [e]
      simp -dsimp -implicitDefEqProofs (disch := omega) [go_sem, -List.getD_eq_getElem?_getD, ite_yes, htp]
      exact ⟨wl_net htp, .inl ⟨rfl, nmE_flat _⟩, .inl ⟨rfl, nmE_flat _⟩⟩
    refine ACall.of (l1Put_new (nextTo ps near i) (ps.getD i pp0).2.1 (by omega) (up1) b1 _ _ _ (Sl.nth 2 rfl rfl) (by unfold blkSz; rw [Heap.get_len_add]; rfl)) ?_
    rw [← putL_length (nextTo ps near i) (ps.getD i pp0).2.1]
    have lp1 := putL_length (nextTo ps near i) (ps.getD i pp0).2.1
    simp -dsimp -implicitDefEqProofs (disch := omega) [go_sem, -List.getD_eq_getElem?_getD, ite_yes, htp]
    have e : nextTo ps near (i + 1) = putL (nextTo ps near i) (ps.getD i pp0).2.1 := by rw [nextTo, insA_yes a0, insI_in b0, insA_yes a1, insI_new b1]
    refine LoopEnd.of (i + 1) (by omega) (by omega) (weakS_mk [some 0, some 1, some 4] rfl ?_ (by rw [e]; simp -dsimp -implicitDefEqProofs (disch := omega) [go_sem, -List.getD_eq_getElem?_getD, ite_yes, htp, putL_length]))
    simp only [e]
    simp -dsimp -implicitDefEqProofs (disch := omega) [go_sem, -List.getD_eq_getElem?_getD, ite_yes, htp]
    exact ⟨wl_net htp, .inl ⟨rfl, nmE_flat _⟩, .inl ⟨rfl, nmE_flat _⟩⟩
  refine ACall.of (l1Put_new (nextTo ps near i) (ps.getD i pp0).2.2.1 (by omega) (up0) b0 _ _ _ (Sl.nth 2 rfl rfl) (by unfold blkSz; rw [Heap.get_len_add]; rfl)) ?_
  rw [← putL_length (nextTo ps near i) (ps.getD i pp0).2.2.1]
  have lp0 := putL_length (nextTo ps near i) (ps.getD i pp0).2.2.1
  simp -dsimp -implicitDefEqProofs (disch := omega) [go_sem, -List.getD_eq_getElem?_getD, ite_yes, htp]
  have up1 := up0.put (of_decide_eq_false b0)
  refine ACall.of (l1Has_A near (ps.getD i pp0).2.2.1 (by omega) _ _ _ (Sl.nth 1 rfl rfl)) ?_
  cases a1 : hasI near (ps.getD i pp0).2.2.1
  · simp -dsimp -implicitDefEqProofs (disch := omega) [go_sem, -List.getD_eq_getElem?_getD, ite_yes, htp]
    have e : nextTo ps near (i + 1) = putL (nextTo ps near i) (ps.getD i pp0).2.2.1 := by rw [nextTo, insA_yes a0, insI_new b0, insA_no a1]
    refine LoopEnd.of (i + 1) (by omega) (by omega) (weakS_mk [some 0, some 1, some 4] rfl ?_ (by rw [e]; simp -dsimp -implicitDefEqProofs (disch := omega) [go_sem, -List.getD_eq_getElem?_getD, ite_yes, htp, putL_length]))
    simp only [e]
    simp -dsimp -implicitDefEqProofs (disch := omega) [go_sem, -List.getD_eq_getElem?_getD, ite_yes, htp]
    exact ⟨wl_net htp, .inl ⟨rfl, nmE_flat _⟩, .inl ⟨rfl, nmE_flat _⟩⟩
  simp -dsimp -implicitDefEqProofs (disch := omega) [go_sem, -List.getD_eq_getElem?_getD, ite_yes, htp]
  cases b1 : hasI (putL (nextTo ps near i) (ps.getD i pp0).2.2.1) (ps.getD i pp0).2.1
  rotate_left
  · refine ACall.of (l1Put_in (putL (nextTo ps near i) (ps.getD i pp0).2.2.1) (ps.getD i pp0).2.1 (by omega) (up1) b1 _ _ _ (Sl.nth 4 rfl rfl)) ?_
    simp -dsimp -implicitDefEqProofs (disch := omega) [go_sem, -List.getD_eq_getElem?_getD, ite_yes, htp]
    have e : nextTo ps near (i + 1) = putL (nextTo ps near i) (ps.getD i pp0).2.2.1 := by rw [nextTo, insA_yes a0, insI_new b0, insA_yes a1, insI_in b1]
    refine LoopEnd.of (i + 1) (by omega) (by omega) (weakS_mk [some 0, some 1, some 4] rfl ?_ (by rw [e]; simp -dsimp -implicitDefEqProofs (disch := omega) [go_sem, -List.getD_eq_getElem?_getD, ite_yes, htp, putL_length]))
    simp only [e]
    simp -dsimp -implicitDefEqProofs (disch := omega) [go_sem, -List.getD_eq_getElem?_getD, ite_yes, htp]
    exact ⟨wl_net htp, .inl ⟨rfl, nmE_flat _⟩, .inl ⟨rfl, nmE_flat _⟩⟩
  refine ACall.of (l1Put_new (putL (nextTo ps near i) (ps.getD i pp0).2.2.1) (ps.getD i pp0).2.1 (by omega) (up1) b1 _ _ _ (Sl.nth 4 rfl rfl) (by unfold blkSz; rw [Heap.get_len_add]; rfl)) ?_
  rw [← putL_length (putL (nextTo ps near i) (ps.getD i pp0).2.2.1) (ps.getD i pp0).2.1]
  have lp1 := putL_length (putL (nextTo ps near i) (ps.getD i pp0).2.2.1) (ps.getD i pp0).2.1
  simp -dsimp -implicitDefEqProofs (disch := omega) [go_sem, -List.getD_eq_getElem?_getD, ite_yes, htp]
  have e : nextTo ps near (i + 1) = putL (putL (nextTo ps near i) (ps.getD i pp0).2.2.1) (ps.getD i pp0).2.1 := by rw [nextTo, insA_yes a0, insI_new b0, insA_yes a1, insI_new b1]
  refine LoopEnd.of (i + 1) (by omega) (by omega) (weakS_mk [some 0, some 1, some 5] rfl ?_ (by rw [e]; simp -dsimp -implicitDefEqProofs (disch := omega) [go_sem, -List.getD_eq_getElem?_getD, ite_yes, htp, putL_length]))
  simp only [e]
  simp -dsimp -implicitDefEqProofs (disch := omega) [go_sem, -List.getD_eq_getElem?_getD, ite_yes, htp]
  exact ⟨wl_net htp, .inl ⟨rfl, nmE_flat _⟩, .inl ⟨rfl, nmE_flat _⟩⟩
  -- @@end
end Go.Proofs.Ytkjgmppcgcimgaa
