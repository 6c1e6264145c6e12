/- Tariffs: the walks of both sides. -/
import Derived.Test.YtappbdfieccfeaaTar
import Derived.Test.YtappbdfieccfeaaAm13
namespace Go.Proofs.Ytappbdfieccfeaa
open Go.Am
set_option linter.unusedVariables false
set_option linter.unusedSimpArgs false
set_option maxRecDepth 100000
set_option maxHeartbeats 2000000

theorem wl_tar {n : Int} {t len c m j : Nat} {js : List (Option Nat)} (ht : t < m) : WL (sg m js) (m + j) [.int .i64 n, .slice (some ⟨t, 0, none⟩) len c] [.int .i64 n, .slice (some ⟨t, 0, none⟩) len c] :=
  have h : t < m + j := by omega
  .inr ⟨rfl, ⟨h, .inl ⟨t, c, by simp [sg, ht], rfl⟩⟩, trivial⟩
theorem goodK_no {fee : Int} {l : List Bk} (h : asc (0, 0) isBk upBk l = false) : goodK fee l = false := by
  unfold goodK
  rw [h]; simp
theorem goodK_v {fee : Int} {l : List Bk} (h : asc (0, 0) isBk upBk l = false) : Value.bool false = Value.bool (goodK fee l) := by rw [goodK_no h]
theorem goodK_end {fee : Int} {l : List Bk} (h1 : inB fee 0 100000 = true) (h2 : inB l.length 1 5 = true) (h : asc (0, 0) isBk upBk l = true) : goodK fee l = decide (lastUp l = 100000) := by
  unfold goodK
  rw [h, h1, h2]; simp
theorem iValidTariff_A (n : Int) (l : List Bk) (hl : l.length ≤ 1048577) (c : Nat) (H : Heap) (t : Nat) (hS : Sl bkE H t l) :
    AFunC Try.prog 60 [tarV n t l.length c] H (.bool (goodK n l)) H := by
  refine AFunC.of_body Try.func60 (by kernel_rfl) rfl (by kernel_rfl) (by simp [Try.ntmps60]) ?_
  have ht := hS.lt
  have cs := fun k hk => hS.cells (s := 2) (fun _ => rfl) (0, 0) k hk
  have csk := fun k hk => hS.cell (s := 2) (fun _ => rfl) (0, 0) k 0 hk (by omega)
  simp only [Nat.add_zero, bkE] at csk cs
  simp -dsimp -implicitDefEqProofs (disch := omega) [go_sem, -List.getD_eq_getElem?_getD, ite_yes, ht]
  refine ACall.of (inside_A _ _ _ _) ?_
  cases h1 : inB n 0 100000
  · simp -dsimp -implicitDefEqProofs (disch := omega) [go_sem, -List.getD_eq_getElem?_getD, ite_yes, ht]
    exact fin_flat rfl (by rw [goodK, h1]; rfl)
  simp -dsimp -implicitDefEqProofs (disch := omega) [go_sem, -List.getD_eq_getElem?_getD, ite_yes, ht]
  refine ACall.of (inside_A _ _ _ _) ?_
  cases h2 : inB l.length 1 5
  · simp -dsimp -implicitDefEqProofs (disch := omega) [go_sem, -List.getD_eq_getElem?_getD, ite_yes, ht]
    exact fin_flat rfl (by rw [goodK, h1, h2]; rfl)
  simp -dsimp -implicitDefEqProofs (disch := omega) [go_sem, -List.getD_eq_getElem?_getD, ite_yes, ht]
  have l5 : 1 ≤ l.length ∧ l.length ≤ 5 := by
    simp only [inB, Bool.and_eq_true, decide_eq_true_eq] at h2
    omega
  refine ALoop.intro (ι := Nat) (fun k => k ≤ l.length ∧ ascTo (0, 0) isBk upBk l k) (fun k => [(1, .pointer (some ⟨H.length, 0, none⟩)), (17, .slice (some ⟨t, 0, none⟩) l.length c), (18, .int .i64 l.length), (19, .int .i64 k)]) (fun _ => H ++ [some ⟨[.int .i64 n, .slice (some ⟨t, 0, none⟩) l.length c], true, 39, 1⟩]) (fun k => l.length - k) 0 ⟨by omega, ascTo_zero⟩ ?_ ?_
  · refine weakS_mk [some 0] rfl ?_ (by simp -dsimp -implicitDefEqProofs (disch := omega) [go_sem, -List.getD_eq_getElem?_getD, ite_yes, ht])
    simp -dsimp -implicitDefEqProofs (disch := omega) [go_sem, -List.getD_eq_getElem?_getD, ite_yes, ht]
    exact wl_tar ht
  · rintro k ⟨hk, hg⟩
    by_cases hlt : k < l.length
    · simp -dsimp -implicitDefEqProofs (disch := omega) [go_sem, -List.getD_eq_getElem?_getD, ite_yes, hlt, cs, ht]
      refine ADraw.quiet (by kernel_rfl) (by kernel_rfl) (by kernel_rfl) ?_
      simp -dsimp -implicitDefEqProofs (disch := omega) [go_sem, -List.getD_eq_getElem?_getD, ite_yes, hlt, cs, csk, ht]
      refine ACallQ.of (inside_A (l.getD k (0, 0)).1 1 100000 _) rfl ?_
      simp -dsimp -implicitDefEqProofs (disch := omega) [go_sem, -List.getD_eq_getElem?_getD, ite_yes, hlt, ht]
      cases e1 : inB (l.getD k (0, 0)).1 1 100000
      · simp -dsimp -implicitDefEqProofs (disch := omega) [go_sem, -List.getD_eq_getElem?_getD, ite_yes]
        exact fin_flat rfl (goodK_v (asc_no hlt (.inl (by simp only [isBk, e1, Bool.false_and]))))
      simp -dsimp -implicitDefEqProofs (disch := omega) [go_sem, -List.getD_eq_getElem?_getD, ite_yes, hlt, ht]
      refine ACallQ.of (inside_A (l.getD k (0, 0)).2 0 1000 _) rfl ?_
      cases e2 : inB (l.getD k (0, 0)).2 0 1000
      · simp -dsimp -implicitDefEqProofs (disch := omega) [go_sem, -List.getD_eq_getElem?_getD, ite_yes]
        exact fin_flat rfl (goodK_v (asc_no hlt (.inl (by simp only [isBk, e1, e2, Bool.and_false]))))
      have hk1 : isBk (l.getD k (0, 0)) = true := by simp only [isBk, e1, e2]; rfl
      simp -dsimp -implicitDefEqProofs (disch := omega) [go_sem, -List.getD_eq_getElem?_getD, ite_yes, hlt, ht]
      refine AIf.of (fun h2 => ?_) (fun h2 => ?_)
      · simp at h2
        simp -dsimp -implicitDefEqProofs (disch := omega) [go_sem, -List.getD_eq_getElem?_getD, ite_yes, hlt, cs, csk, ht]
        refine AIf.of (fun h3 => ?_) (fun h3 => ?_)
        · simp -dsimp -implicitDefEqProofs (disch := omega) [go_sem, -List.getD_eq_getElem?_getD, ite_yes, hlt, cs, csk]
          exact fin_flat rfl (goodK_v (asc_no hlt (.inr ⟨h2, by simpa [upBk] using h3⟩)))
        · simp -dsimp -implicitDefEqProofs (disch := omega) [go_sem, -List.getD_eq_getElem?_getD, ite_yes, hlt, cs, csk]
          refine LoopEnd.of (k + 1) ⟨by omega, hg.next hk1 fun _ => by simpa [upBk] using h3⟩ (by omega) (weakS_mk [some 0] rfl ?_ (by simp -dsimp -implicitDefEqProofs (disch := omega) [go_sem, -List.getD_eq_getElem?_getD, ite_yes, ht]))
          simp -dsimp -implicitDefEqProofs (disch := omega) [go_sem, -List.getD_eq_getElem?_getD, ite_yes, ht]
          exact wl_tar ht
      · simp at h2
        simp -dsimp -implicitDefEqProofs (disch := omega) [go_sem, -List.getD_eq_getElem?_getD, ite_yes, hlt, cs, csk]
        refine LoopEnd.of (k + 1) ⟨by omega, hg.next hk1 fun h => by omega⟩ (by omega) (weakS_mk [some 0] rfl ?_ (by simp -dsimp -implicitDefEqProofs (disch := omega) [go_sem, -List.getD_eq_getElem?_getD, ite_yes, ht]))
        simp -dsimp -implicitDefEqProofs (disch := omega) [go_sem, -List.getD_eq_getElem?_getD, ite_yes, ht]
        exact wl_tar ht
    · obtain rfl : k = l.length := by omega
      have cl := csk (l.length - 1) (by omega)
      have hl0 : l.length - 1 < l.length := by omega
      simp -dsimp -implicitDefEqProofs (disch := omega) [go_sem, -List.getD_eq_getElem?_getD, ite_yes, hlt, cl, ht, hl0]
      exact fin_flat rfl (by rw [goodK_end h1 h2 (asc_yes hg)]; rfl)
theorem l14Good_A (n : Int) (l : List Bk) (hl : l.length ≤ 1048577) (c : Nat) (H : Heap) (t : Nat) (hS : Sl bkE H t l) :
    AFunC Try.prog 66 [tarV n t l.length c] H (.bool (goodK n l)) H := by
  refine AFunC.of_body Try.func66 (by kernel_rfl) rfl (by kernel_rfl) (by simp [Try.ntmps66]) ?_
  have ht := hS.lt
  have cs := fun k hk => hS.cells (s := 2) (fun _ => rfl) (0, 0) k hk
  have csk := fun k hk => hS.cell (s := 2) (fun _ => rfl) (0, 0) k 0 hk (by omega)
  simp only [Nat.add_zero, bkE] at csk cs
  simp -dsimp -implicitDefEqProofs (disch := omega) [go_sem, -List.getD_eq_getElem?_getD, ite_yes, ht]
  refine ACall.of (l1In_A _ _ _ _) ?_
  cases h1 : inB n 0 100000
  · simp -dsimp -implicitDefEqProofs (disch := omega) [go_sem, -List.getD_eq_getElem?_getD, ite_yes, ht]
    exact fin_flat rfl (by rw [goodK, h1]; rfl)
  simp -dsimp -implicitDefEqProofs (disch := omega) [go_sem, -List.getD_eq_getElem?_getD, ite_yes, ht]
  refine ACall.of (l1In_A _ _ _ _) ?_
  cases h2 : inB l.length 1 5
  · simp -dsimp -implicitDefEqProofs (disch := omega) [go_sem, -List.getD_eq_getElem?_getD, ite_yes, ht]
    exact fin_flat rfl (by rw [goodK, h1, h2]; rfl)
  have l5 : 1 ≤ l.length ∧ l.length ≤ 5 := by
    simp only [inB, Bool.and_eq_true, decide_eq_true_eq] at h2
    omega
  have cl := csk (l.length - 1) (by omega)
  have hl0 : l.length - 1 < l.length := by omega
  rw [show (l.getD (l.length - 1) (0, 0)).1 = lastUp l from rfl] at cl
  by_cases h3 : lastUp l = 100000
  rotate_left
  · simp -dsimp -implicitDefEqProofs (disch := omega) [go_sem, -List.getD_eq_getElem?_getD, ite_yes, ht, cl, hl0, h3]
    exact fin_flat rfl (by rw [goodK, decide_eq_false h3]; simp)
  simp -dsimp -implicitDefEqProofs (disch := omega) [go_sem, -List.getD_eq_getElem?_getD, ite_yes, ht, cl, hl0, h3]
  refine ALoop.intro (ι := Nat) (fun k => k ≤ l.length ∧ ascTo (0, 0) lowBk upBk l k) (fun k => [(1, .pointer (some ⟨H.length, 0, none⟩)), (3, .int .i64 l.length), (4, .int .i64 k)]) (fun _ => H ++ [some ⟨[.int .i64 n, .slice (some ⟨t, 0, none⟩) l.length c], true, 39, 1⟩]) (fun k => l.length - k) 0 ⟨by omega, ascTo_zero⟩ ?_ ?_
  · refine weakS_mk [some 0] rfl ?_ (by simp -dsimp -implicitDefEqProofs (disch := omega) [go_sem, -List.getD_eq_getElem?_getD, ite_yes, ht])
    simp -dsimp -implicitDefEqProofs (disch := omega) [go_sem, -List.getD_eq_getElem?_getD, ite_yes, ht]
    exact wl_tar ht
  · rintro k ⟨hk, hg⟩
    by_cases hlt : k < l.length
    · simp -dsimp -implicitDefEqProofs (disch := omega) [go_sem, -List.getD_eq_getElem?_getD, ite_yes, hlt, cs, ht]
      refine ADraw.quiet (by kernel_rfl) (by kernel_rfl) (by kernel_rfl) ?_
      by_cases e1 : (l.getD k (0, 0)).1 < 1
      · simp -dsimp -implicitDefEqProofs (disch := omega) [go_sem, -List.getD_eq_getElem?_getD, ite_yes, hlt, cs, csk, ht, e1]
        exact fin_flat rfl (goodK_v (asc_low_no (asc_no hlt (.inl (by simp only [lowBk, decide_eq_false (show ¬ 1 ≤ (l.getD k (0, 0)).1 by omega), Bool.false_and])))))
      simp -dsimp -implicitDefEqProofs (disch := omega) [go_sem, -List.getD_eq_getElem?_getD, ite_yes, hlt, cs, csk, ht, e1]
      refine ACallQ.of (l1In_A (l.getD k (0, 0)).2 0 1000 _) rfl ?_
      cases e2 : inB (l.getD k (0, 0)).2 0 1000
      · simp -dsimp -implicitDefEqProofs (disch := omega) [go_sem, -List.getD_eq_getElem?_getD, ite_yes]
        exact fin_flat rfl (goodK_v (asc_low_no (asc_no hlt (.inl (by simp only [lowBk, e2, Bool.and_false])))))
      have hk1 : lowBk (l.getD k (0, 0)) = true := by simp only [lowBk, decide_eq_true (show 1 ≤ (l.getD k (0, 0)).1 by omega), e2]; rfl
      simp -dsimp -implicitDefEqProofs (disch := omega) [go_sem, -List.getD_eq_getElem?_getD, ite_yes, hlt, ht]
      refine AIf.of (fun h2 => ?_) (fun h2 => ?_)
      · simp at h2
        simp -dsimp -implicitDefEqProofs (disch := omega) [go_sem, -List.getD_eq_getElem?_getD, ite_yes, hlt, cs, csk, ht]
        refine AIf.of (fun h3 => ?_) (fun h3 => ?_)
        · simp -dsimp -implicitDefEqProofs (disch := omega) [go_sem, -List.getD_eq_getElem?_getD, ite_yes, hlt, cs, csk]
          exact fin_flat rfl (goodK_v (asc_low_no (asc_no hlt (.inr ⟨h2, by simpa [upBk] using h3⟩))))
        · simp -dsimp -implicitDefEqProofs (disch := omega) [go_sem, -List.getD_eq_getElem?_getD, ite_yes, hlt, cs, csk]
          refine LoopEnd.of (k + 1) ⟨by omega, hg.next hk1 fun _ => by simpa [upBk] using h3⟩ (by omega) (weakS_mk [some 0] rfl ?_ (by simp -dsimp -implicitDefEqProofs (disch := omega) [go_sem, -List.getD_eq_getElem?_getD, ite_yes, ht]))
          simp -dsimp -implicitDefEqProofs (disch := omega) [go_sem, -List.getD_eq_getElem?_getD, ite_yes, ht]
          exact wl_tar ht
      · simp at h2
        simp -dsimp -implicitDefEqProofs (disch := omega) [go_sem, -List.getD_eq_getElem?_getD, ite_yes, hlt, cs, csk]
        refine LoopEnd.of (k + 1) ⟨by omega, hg.next hk1 fun h => by omega⟩ (by omega) (weakS_mk [some 0] rfl ?_ (by simp -dsimp -implicitDefEqProofs (disch := omega) [go_sem, -List.getD_eq_getElem?_getD, ite_yes, ht]))
        simp -dsimp -implicitDefEqProofs (disch := omega) [go_sem, -List.getD_eq_getElem?_getD, ite_yes, ht]
        exact wl_tar ht
    · simp -dsimp -implicitDefEqProofs (disch := omega) [go_sem, -List.getD_eq_getElem?_getD, ite_yes, hlt]
      obtain rfl : k = l.length := by omega
      exact fin_flat rfl (by rw [goodK_end h1 h2 (asc_low (asc_yes hg) h3), decide_eq_true h3])
theorem isVolume_A (v : Int) (H : Heap) : AFunC Try.prog 61 [.int .i64 v] H (.bool (inB v 0 100000)) H := by
  refine AFunC.of_body Try.func61 (by kernel_rfl) rfl (by kernel_rfl) (by simp [Try.ntmps61]) ?_
  simp -dsimp -implicitDefEqProofs (disch := omega) [go_sem, -List.getD_eq_getElem?_getD, ite_yes]
  refine ACall.of (inside_A _ _ _ _) ?_
  simp -dsimp -implicitDefEqProofs (disch := omega) [go_sem, -List.getD_eq_getElem?_getD, ite_yes]
  exact fin_flat0 rfl rfl
theorem l14Volume_A (v : Int) (H : Heap) : AFunC Try.prog 67 [.int .i64 v] H (.bool (inB v 0 100000)) H := by
  refine AFunC.of_body Try.func67 (by kernel_rfl) rfl (by kernel_rfl) (by simp [Try.ntmps67]) ?_
  simp -dsimp -implicitDefEqProofs (disch := omega) [go_sem, -List.getD_eq_getElem?_getD, ite_yes]
  refine ACall.of (l1In_A _ _ _ _) ?_
  simp -dsimp -implicitDefEqProofs (disch := omega) [go_sem, -List.getD_eq_getElem?_getD, ite_yes]
  exact fin_flat0 rfl rfl
theorem splitCost_A (n : Int) (l : List Bk) (v : Int) (h : TarAt n l) (hv : 0 ≤ v ∧ v ≤ 100000) (c : Nat) (H : Heap) (t : Nat) (hS : Sl bkE H t l) :
    AFunC Try.prog 75 [tarV n t l.length c, .int .i64 v] H (.slice (some ⟨H.length, 0, none⟩) (l.length + 1) (l.length + 1)) (H ++ [some ⟨(cutK n l v l.length).flatMap nmE, true, 3, 1⟩]) := by
  refine AFunC.of_body Try.func75 (by kernel_rfl) rfl (by kernel_rfl) (by simp [Try.ntmps75]) ?_
  have ht := hS.lt
  have l5 := h.f_len
  have cs := fun k hk => hS.cells (s := 2) (fun _ => rfl) (0, 0) k hk
  simp only [bkE] at cs
  simp -dsimp -implicitDefEqProofs (disch := omega) [go_sem, -List.getD_eq_getElem?_getD, ite_yes, ht]
  refine ALoop.intro (ι := Nat) (fun k => k ≤ l.length) (fun k => [(1, .int .i64 v), (5, .slice (some ⟨H.length, 0, none⟩) (k + 1) (k + 1)), (6, .int .i64 (fromK l k)), (13, .slice (some ⟨t, 0, none⟩) l.length c), (14, .int .i64 l.length), (15, .int .i64 k)])
    (fun k => H ++ [some ⟨(cutK n l v k).flatMap nmE, true, 3, 1⟩]) (fun k => l.length - k) 0 (by omega) ?_ ?_
  · refine weakS_mk [some 1] rfl ?_ (by simp -dsimp -implicitDefEqProofs (disch := omega) [go_sem, -List.getD_eq_getElem?_getD, ite_yes, ht, fromK])
    simp -dsimp -implicitDefEqProofs (disch := omega) [go_sem, -List.getD_eq_getElem?_getD, ite_yes, ht]
    exact .inl ⟨rfl, rfl⟩
  · intro k hk
    by_cases hlt : k < l.length
    · have b1 := h.f_at k hlt
      have b2 := fromK_bound h k (by omega)
      have b3 := partK_bound h hv hlt
      have cl := cutK_length n l v k
      have cf : ((cutK n l v k).flatMap nmE).length = k + 1 := by rw [nmE_length, cl]; omega
      have fk : fromK l (k + 1) = (l.getD k (0, 0)).1 := rfl
      have e : (cutK n l v (k + 1)).flatMap nmE = (cutK n l v k).flatMap nmE ++ [.int .i64 (partK l v k)] := by rw [cutK, List.flatMap_append]; rfl
      have ef : ((cutK n l v k).flatMap nmE ++ [Value.int .i64 (partK l v k)]).all flat = true := by rw [← e]; exact nmE_flat _
      have ep : IntKind.i64.wrap (max (min v (l.getD k (0, 0)).1 - fromK l k) 0 * (l.getD k (0, 0)).2) = partK l v k := wrap_ok (show _ ≤ partK l v k by omega) (show partK l v k ≤ _ by omega)
      have e1 : (if (l.getD k (0, 0)).1 < v then (l.getD k (0, 0)).1 else v) = min v (l.getD k (0, 0)).1 := by split <;> omega
      have e2 : (if min v (l.getD k (0, 0)).1 - fromK l k < 0 then 0 else min v (l.getD k (0, 0)).1 - fromK l k) = max (min v (l.getD k (0, 0)).1 - fromK l k) 0 := by split <;> omega
      simp -dsimp -implicitDefEqProofs (disch := omega) [go_sem, -List.getD_eq_getElem?_getD, ite_yes, hlt, cs, ht, cf, e1, e2, ep]
      refine ⟨by omega, LoopEnd.of (k + 1) (by omega) (by omega) (weakS_mk [some 3] rfl ?_ (by simp -dsimp -implicitDefEqProofs (disch := omega) [go_sem, -List.getD_eq_getElem?_getD, ite_yes, ht, fk]))⟩
      simp -dsimp -implicitDefEqProofs (disch := omega) [go_sem, -List.getD_eq_getElem?_getD, ite_yes]
      exact .inl ⟨e, ef⟩
    · simp -dsimp -implicitDefEqProofs (disch := omega) [go_sem, -List.getD_eq_getElem?_getD, ite_yes, hlt]
      obtain rfl : k = l.length := by omega
      refine fin_list [some 0] rfl ?_ (by simp -dsimp -implicitDefEqProofs (disch := omega) [go_sem, -List.getD_eq_getElem?_getD, ite_yes, ht])
      simp -dsimp -implicitDefEqProofs (disch := omega) [go_sem, -List.getD_eq_getElem?_getD, ite_yes]
      exact .inl ⟨rfl, nmE_flat _⟩
theorem l14Split_A (n : Int) (l : List Bk) (v : Int) (h : TarAt n l) (hv : 0 ≤ v ∧ v ≤ 100000) (c : Nat) (H : Heap) (t : Nat) (hS : Sl bkE H t l) :
    AFunC Try.prog 77 [tarV n t l.length c, .int .i64 v] H (.slice (some ⟨H.length, 0, none⟩) (l.length + 1) (l.length + 1)) (H ++ [some ⟨(cutK n l v l.length).flatMap nmE, true, 3, 1⟩]) := by
  refine AFunC.of_body Try.func77 (by kernel_rfl) rfl (by kernel_rfl) (by simp [Try.ntmps77]) ?_
  have ht := hS.lt
  have l5 := h.f_len
  have cs := fun k hk => hS.cells (s := 2) (fun _ => rfl) (0, 0) k hk
  simp only [bkE] at cs
  simp -dsimp -implicitDefEqProofs (disch := omega) [go_sem, -List.getD_eq_getElem?_getD, ite_yes, ht]
  refine ALoop.intro (ι := Nat) (fun k => k ≤ l.length) (fun k => [(1, .int .i64 v), (2, .pointer (some ⟨H.length, 0, none⟩)), (5, .slice (some ⟨H.length + 1, 0, none⟩) (k + 1) (k + 1)), (6, .int .i64 (fromK l k)), (7, .int .i64 k)])
    (fun k => H ++ [some ⟨[.int .i64 n, .slice (some ⟨t, 0, none⟩) l.length c], true, 39, 1⟩, some ⟨(cutK n l v k).flatMap nmE, true, 3, 1⟩]) (fun k => l.length - k) 0 (by omega) ?_ ?_
  · refine weakS_mk [some 0, some 1] rfl ?_ (by simp -dsimp -implicitDefEqProofs (disch := omega) [go_sem, -List.getD_eq_getElem?_getD, ite_yes, ht, fromK])
    simp -dsimp -implicitDefEqProofs (disch := omega) [go_sem, -List.getD_eq_getElem?_getD, ite_yes, ht]
    exact ⟨wl_tar ht, .inl ⟨rfl, rfl⟩⟩
  · intro k hk
    by_cases hlt : k < l.length
    · have b1 := h.f_at k hlt
      have b2 := fromK_bound h k (by omega)
      have b3 := partK_bound h hv hlt
      have cl := cutK_length n l v k
      have cf : ((cutK n l v k).flatMap nmE).length = k + 1 := by rw [nmE_length, cl]; omega
      have fk : fromK l (k + 1) = (l.getD k (0, 0)).1 := rfl
      have e : (cutK n l v (k + 1)).flatMap nmE = (cutK n l v k).flatMap nmE ++ [.int .i64 (partK l v k)] := by rw [cutK, List.flatMap_append]; rfl
      have ef : ((cutK n l v k).flatMap nmE ++ [Value.int .i64 (partK l v k)]).all flat = true := by rw [← e]; exact nmE_flat _
      have ec : (l.getD k (0, 0)).2 * max 0 (min v (l.getD k (0, 0)).1 - fromK l k) = partK l v k := by rw [Int.mul_comm, Int.max_comm]; rfl
      have ep : IntKind.i64.wrap ((l.getD k (0, 0)).2 * max 0 (min v (l.getD k (0, 0)).1 - fromK l k)) = partK l v k := by rw [ec]; exact wrap_ok (by omega) (by omega)
      simp -dsimp -implicitDefEqProofs (disch := omega) [go_sem, -List.getD_eq_getElem?_getD, ite_yes, hlt, cs, ht]
      refine ADraw.any (H ++ [some ⟨[.int .i64 n, .slice (some ⟨t, 0, none⟩) l.length c], true, 39, 1⟩, none, some ⟨[.int .i64 (l.getD k (0, 0)).1, .int .i64 (l.getD k (0, 0)).2], true, 87, 1⟩]) (by kernel_rfl) (by first | exact SubH.refl | exact SubH.app | exact SubH.both (by simp [subL])) ?_
      refine AAny.takes (fuel := 7) (by kernel_rfl) (by kernel_rfl) [0, 1, 2, 3, 4, 5, 7] (by kernel_rfl) (by kernel_rfl) ?_
      simp -dsimp -implicitDefEqProofs (disch := omega) [go_sem, -List.getD_eq_getElem?_getD, ite_yes, hlt, ht, cf, ep]
      refine AAny.one 6 6 (by kernel_rfl) (by kernel_rfl) (by kernel_rfl) ?_
      simp -dsimp -implicitDefEqProofs (disch := omega) [go_sem, -List.getD_eq_getElem?_getD, ite_yes, hlt, ht, cf, ep]
      refine ACall.of (l1Least_A v (l.getD k (0, 0)).1 _) ?_
      simp -dsimp -implicitDefEqProofs (disch := omega) [go_sem, -List.getD_eq_getElem?_getD, ite_yes, hlt, ht, cf, ep]
      first | refine AAt.of (by first | exact SubH.refl | exact SubH.app | exact SubH.both (by simp [subL])) ?_ | (refine ⟨?_, AAt.of (by first | exact SubH.refl | exact SubH.app | exact SubH.both (by simp [subL])) ?_⟩; · omega)
      refine AAny.takes (fuel := 5) (by kernel_rfl) (by kernel_rfl) [8] (by kernel_rfl) (by kernel_rfl) ?_
      simp -dsimp -implicitDefEqProofs (disch := omega) [go_sem, -List.getD_eq_getElem?_getD, ite_yes, hlt, ht, cf, ep]
      refine AAny.one 4 9 (by kernel_rfl) (by kernel_rfl) (by kernel_rfl) ?_
      simp -dsimp -implicitDefEqProofs (disch := omega) [go_sem, -List.getD_eq_getElem?_getD, ite_yes, hlt, ht, cf, ep]
      refine ACall.of (l1Most_A 0 (min v (l.getD k (0, 0)).1 - fromK l k) _) ?_
      simp -dsimp -implicitDefEqProofs (disch := omega) [go_sem, -List.getD_eq_getElem?_getD, ite_yes, hlt, ht, cf, ep]
      first | refine AAt.of (by first | exact SubH.refl | exact SubH.app | exact SubH.both (by simp [subL])) ?_ | (refine ⟨?_, AAt.of (by first | exact SubH.refl | exact SubH.app | exact SubH.both (by simp [subL])) ?_⟩; · omega)
      refine AAny.takes (fuel := 3) (by kernel_rfl) (by kernel_rfl) [10] (by kernel_rfl) (by kernel_rfl) ?_
      simp -dsimp -implicitDefEqProofs (disch := omega) [go_sem, -List.getD_eq_getElem?_getD, ite_yes, hlt, ht, cf, ep]
      refine AAny.one 2 11 (by kernel_rfl) (by kernel_rfl) (by kernel_rfl) ?_
      simp -dsimp -implicitDefEqProofs (disch := omega) [go_sem, -List.getD_eq_getElem?_getD, ite_yes, hlt, ht, cf, ep]
      first | refine AAt.of (by first | exact SubH.refl | exact SubH.app | exact SubH.both (by simp [subL])) ?_ | (refine ⟨?_, AAt.of (by first | exact SubH.refl | exact SubH.app | exact SubH.both (by simp [subL])) ?_⟩; · omega)
      refine AAny.one 1 12 (by kernel_rfl) (by kernel_rfl) (by kernel_rfl) ?_
      simp -dsimp -implicitDefEqProofs (disch := omega) [go_sem, -List.getD_eq_getElem?_getD, ite_yes, hlt, ht, cf, ep]
      first | refine AAt.of (by first | exact SubH.refl | exact SubH.app | exact SubH.both (by simp [subL])) ?_ | (refine ⟨?_, AAt.of (by first | exact SubH.refl | exact SubH.app | exact SubH.both (by simp [subL])) ?_⟩; · omega)
      refine AAny.takes (fuel := 0) (by kernel_rfl) (by kernel_rfl) [13] (by kernel_rfl) (by kernel_rfl) ?_
      simp -dsimp -implicitDefEqProofs (disch := omega) [go_sem, -List.getD_eq_getElem?_getD, ite_yes, hlt, ht, cf, ep]
      refine AAny.done (by kernel_rfl) ?_
      simp -dsimp -implicitDefEqProofs (disch := omega) [go_sem, -List.getD_eq_getElem?_getD, ite_yes, hlt, ht, cf, ep]
      refine LoopEnd.of (k + 1) (by omega) (by omega) (weakS_mk [some 0, some 4] rfl ?_ (by simp -dsimp -implicitDefEqProofs (disch := omega) [go_sem, -List.getD_eq_getElem?_getD, ite_yes, ht, fk]))
      simp -dsimp -implicitDefEqProofs (disch := omega) [go_sem, -List.getD_eq_getElem?_getD, ite_yes]
      exact ⟨wl_tar ht, .inl ⟨e, ef⟩⟩
    · simp -dsimp -implicitDefEqProofs (disch := omega) [go_sem, -List.getD_eq_getElem?_getD, ite_yes, hlt]
      obtain rfl : k = l.length := by omega
      refine fin_list [some 1] rfl ?_ (by simp -dsimp -implicitDefEqProofs (disch := omega) [go_sem, -List.getD_eq_getElem?_getD, ite_yes, ht])
      simp -dsimp -implicitDefEqProofs (disch := omega) [go_sem, -List.getD_eq_getElem?_getD, ite_yes]
      exact .inl ⟨rfl, nmE_flat _⟩
end Go.Proofs.Ytappbdfieccfeaa
