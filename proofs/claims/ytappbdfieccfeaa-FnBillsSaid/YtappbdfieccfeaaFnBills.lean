/- FnBills: the law. -/
import Derived.Test.YtappbdfieccfeaaDrawBl2
import Derived.Test.YtappbdfieccfeaaBillsLaw
import Derived.Test.YtappbdfieccfeaaRefund
import Derived.Test.YtappbdfieccfeaaMakeBill
import Derived.Test.YtappbdfieccfeaaShiftC
import Derived.Test.YtappbdfieccfeaaLawIn
namespace Go.Proofs.Ytappbdfieccfeaa
open Go.Am
set_option linter.unusedVariables false
set_option linter.unusedSimpArgs false
set_option maxRecDepth 100000
set_option maxHeartbeats 4000000

theorem rBills_same (l : List Bl) (hl : l.length ≤ 1048577) (c d : Nat) (H : Heap) (t u : Nat) (hS : Sl blE H t l) (hU : Sl blE H u l) :
    AFunC Try.prog 23 [.slice (some ⟨t, 0, none⟩) l.length c, .slice (some ⟨u, 0, none⟩) l.length d] H (.bool true) H := by
  refine AFunC.of_body Try.func23 (by kernel_rfl) rfl (by kernel_rfl) (by simp [Try.ntmps23]) ?_
  have ht := hS.lt
  have hu := hU.lt
  have cs := fun k hk => hS.cells (s := 4) (fun _ => rfl) (0, 0, 0, 0) k hk
  have cu := fun k hk => hU.cells (s := 4) (fun _ => rfl) (0, 0, 0, 0) k hk
  simp only [blE] at cs cu
  simp -dsimp -implicitDefEqProofs (disch := omega) [go_sem, -List.getD_eq_getElem?_getD, ite_yes]
  refine ALoop.intro (ι := Nat) (fun k => k ≤ l.length) (fun k => [(0, .slice (some ⟨t, 0, none⟩) l.length c), (1, .slice (some ⟨u, 0, none⟩) l.length d), (5, .int .i64 k)]) (fun _ => H) (fun k => l.length - k) 0 (by omega) ?_ ?_
  · exact weakS_same (by simp -dsimp -implicitDefEqProofs (disch := omega) [go_sem, -List.getD_eq_getElem?_getD, ite_yes, ht, hu])
  · intro k hk
    by_cases hlt : k < l.length
    · simp -dsimp -implicitDefEqProofs (disch := omega) [go_sem, -List.getD_eq_getElem?_getD, ite_yes, hlt]
      refine ADraw.quiet (by kernel_rfl) (by kernel_rfl) (by kernel_rfl) ?_
      simp -dsimp -implicitDefEqProofs (disch := omega) [go_sem, -List.getD_eq_getElem?_getD, ite_yes, hlt, cs, cu]
      refine LoopEnd.of (k + 1) (by omega) (by omega) (weakS_same (by simp -dsimp -implicitDefEqProofs (disch := omega) [go_sem, -List.getD_eq_getElem?_getD, ite_yes, ht, hu]))
    · simp -dsimp -implicitDefEqProofs (disch := omega) [go_sem, -List.getD_eq_getElem?_getD, ite_yes, hlt]
      exact fin_flat0 rfl rfl
theorem rBills_nil (d u : Nat) (H : Heap) : AFunC Try.prog 23 [.slice none 0 0, .slice (some ⟨u, 0, none⟩) 0 d] H (.bool true) H := by
  refine AFunC.of_body Try.func23 (by kernel_rfl) rfl (by kernel_rfl) (by simp [Try.ntmps23]) ?_
  simp -dsimp -implicitDefEqProofs (disch := omega) [go_sem, -List.getD_eq_getElem?_getD, ite_yes]
  refine ALoop.intro (ι := Unit) (fun _ => True) (fun _ => [(0, .slice none 0 0), (5, .int .i64 0)]) (fun _ => H) (fun _ => 0) () trivial ?_ ?_
  · exact weakS_same (by simp -dsimp -implicitDefEqProofs (disch := omega) [go_sem, -List.getD_eq_getElem?_getD, ite_yes])
  · intro _ _
    simp -dsimp -implicitDefEqProofs (disch := omega) [go_sem, -List.getD_eq_getElem?_getD, ite_yes]
    exact fin_flat0 rfl rfl
theorem nmy_cell (s : List Int) {q : Nat} (hq : q < s.length) : List.take 1 (List.drop q (s.flatMap nmE)) = [.int .i64 (s.getD q 0)] := by
  have := flatMap_cells nmE 1 (fun _ => rfl) 0 s q hq
  rwa [Nat.mul_one] at this
theorem sumTo_bnd {l : List Int} (hb : ∀ u ∈ l, 0 ≤ u ∧ u ≤ 1000000001) : ∀ k, k ≤ l.length → 0 ≤ sumTo l k ∧ sumTo l k ≤ 1000000001 * k
  | 0, _ => by simp [sumTo]
  | k + 1, hk => by
    have ih := sumTo_bnd hb k (by omega)
    have := hb (l.getD k 0) (by rw [List.getD_eq_getElem?_getD, List.getElem?_eq_getElem (by omega)]; exact List.getElem_mem _)
    rw [sumTo_next (by omega)]
    omega
theorem rSumB_A (l : List Int) (hb : ∀ u ∈ l, 0 ≤ u ∧ u ≤ 1000000001) (hl : l.length ≤ 100) (c : Nat) (H : Heap) (t : Nat) (hS : Sl nmE H t l) :
    AFunC Try.prog 32 [.slice (some ⟨t, 0, none⟩) l.length c] H (.int .i64 l.sum) H := by
  refine AFunC.of_body Try.func32 (by kernel_rfl) rfl (by kernel_rfl) (by simp [Try.ntmps32]) ?_
  have ht := hS.lt
  have cs := fun k hk => hS.one (g := fun n => Value.int .i64 n) 0 k hk
  simp -dsimp -implicitDefEqProofs (disch := omega) [go_sem, -List.getD_eq_getElem?_getD, ite_yes]
  refine ALoop.intro (ι := Nat) (fun k => k ≤ l.length) (fun k => [(0, .slice (some ⟨t, 0, none⟩) l.length c), (3, .int .i64 (sumTo l k)), (4, .int .i64 k)]) (fun _ => H) (fun k => l.length - k) 0 (by omega) ?_ ?_
  · exact weakS_same (by simp -dsimp -implicitDefEqProofs (disch := omega) [go_sem, -List.getD_eq_getElem?_getD, ite_yes, ht, sumTo])
  · intro k hk
    by_cases hlt : k < l.length
    · have b1 := sumTo_bnd hb k (by omega)
      have b2 := sumTo_bnd hb (k + 1) (by omega)
      have e := sumTo_next hlt
      simp -dsimp -implicitDefEqProofs (disch := omega) [go_sem, -List.getD_eq_getElem?_getD, ite_yes, hlt, cs]
      refine LoopEnd.of (k + 1) (by omega) (by omega) (weakS_same (by simp -dsimp -implicitDefEqProofs (disch := omega) [go_sem, -List.getD_eq_getElem?_getD, ite_yes, ht, e]))
    · simp -dsimp -implicitDefEqProofs (disch := omega) [go_sem, -List.getD_eq_getElem?_getD, ite_yes, hlt]
      obtain rfl : k = l.length := by omega
      exact fin_flat0 rfl (by simp [sumTo])
def MkR (H : Heap) (tc n cc : Nat) (fr1 : Fr) (H1 : Heap) : Prop := ∃ (l : List Bl) (N : Int) (xs bs : List Bk) (off cp : Nat) (vol day : Int), fr1 = [(0, .slice (some ⟨tc, 0, none⟩) n cc), (31, .slice (some ⟨H.length, 0, none⟩) l.length l.length), (32, .pointer (some ⟨H.length + 2, 0, none⟩)), (33, .int .i64 vol), (34, .int .i64 day)] ∧ l.length ≤ 20 ∧ bs.length ≤ 20 ∧ List.drop off (xs.flatMap bkE) = bs.flatMap bkE ∧
  H1 = H ++ [some ⟨l.flatMap blE, true, 62, 4⟩, some ⟨xs.flatMap bkE, true, 87, 2⟩, some ⟨[.int .i64 N, .slice (some ⟨H.length + 1, off, none⟩) bs.length cp], true, 39, 1⟩]
theorem lawBills_A {H : Heap} {tc n : Nat} (h : Bytes H tc n) (cc : Nat) : AFunC Try.prog 5 [.slice (some ⟨tc, 0, none⟩) n cc] H (.bool true) H := by
  refine AFunC.of_awp Try.func5 (by kernel_rfl) rfl (by simp [Try.ntmps5]) ?_
  have ht := h.lt
  refine AWp.step 2 [(0, .slice (some ⟨tc, 0, none⟩) n cc)] H (by kernel_rfl) (by kernel_rfl) ?_ ?_
  · simp -dsimp -implicitDefEqProofs (disch := omega) [go_sem, -List.getD_eq_getElem?_getD, ite_yes]
    refine ACall.of (rBig_A _ _ _ _) ?_
    simp -dsimp -implicitDefEqProofs (disch := omega) [go_sem, -List.getD_eq_getElem?_getD, ite_yes]
    refine AIf.of (fun h' => ?_) (fun h' => ?_)
    · simp -dsimp -implicitDefEqProofs (disch := omega) [go_sem, -List.getD_eq_getElem?_getD, ite_yes]
      exact fin_flat0 rfl rfl
    · simp -dsimp -implicitDefEqProofs (disch := omega) [go_sem, -List.getD_eq_getElem?_getD, ite_yes]
      exact ⟨weakS_same (by simp -dsimp -implicitDefEqProofs (disch := omega) [go_sem, -List.getD_eq_getElem?_getD, ite_yes, ht])⟩
  simp only [AWp_drop, AWp_drop0]
  refine AWp.step 4 [(0, .slice (some ⟨tc, 0, none⟩) n cc)] H (by kernel_rfl) (by kernel_rfl) ?_ ?_
  · simp -dsimp -implicitDefEqProofs (disch := omega) [go_sem, -List.getD_eq_getElem?_getD, ite_yes]
    refine ACall.via (drawPayBills_R h cc) ?_
    rintro _ _ ⟨l, cents, rfl, l1, rfl⟩
    have l2 : l.length ≤ 1048577 := by omega
    simp -dsimp -implicitDefEqProofs (disch := omega) [go_sem, -List.getD_eq_getElem?_getD, ite_yes]
    cases hg : payOk l cents
    · refine ACall.of (iPay_bad l cents l2 hg _ _ _ (Sl.of rfl)) ?_
      simp -dsimp -implicitDefEqProofs (disch := omega) [go_sem, -List.getD_eq_getElem?_getD, ite_yes]
      refine ACall.of (sPay_bad l cents l2 hg _ _ _ (Sl.of rfl)) ?_
      simp -dsimp -implicitDefEqProofs (disch := omega) [go_sem, -List.getD_eq_getElem?_getD, ite_yes]
      refine ACall.of (rBills_nil _ _ _) ?_
      simp -dsimp -implicitDefEqProofs (disch := omega) [go_sem, -List.getD_eq_getElem?_getD, ite_yes]
      exact ⟨weakS_drop (by simp -dsimp -implicitDefEqProofs (disch := omega) [go_sem, -List.getD_eq_getElem?_getD, ite_yes, ht])⟩
    have hg' := hg
    simp only [payOk, inB, Bool.and_eq_true, decide_eq_true_eq] at hg'
    obtain ⟨g1, g2⟩ := hg'
    have gp := pay_good g1 g2
    have pl := payL_length l cents
    have p2 : (payL l cents).length ≤ 1048577 := by omega
    have pb := payN_bound g1 g2 l.length (Nat.le_refl _)
    have ob := openTo_bound g1 l.length (Nat.le_refl _)
    have opb := openTo_bound gp (payL l cents).length (Nat.le_refl _)
    have l12 := (goodB_at g1).1
    obtain ⟨r, hr⟩ := found_ex (0, 0, 0, 0) isOpenB (payL l cents) _ 0 rfl (fun i hi => absurd hi (Nat.not_lt_zero _)) (Nat.zero_le _)
    have e1 : openN l = openTo l l.length := if_pos g1
    have e2 : openN (payL l cents) = openTo (payL l cents) (payL l cents).length := if_pos gp
    have e3 : oldOk (payL l cents) r = decide (0 < openTo (payL l cents) (payL l cents).length) := by rw [oldOk, gp, Bool.true_and]; exact open_pos gp hr
    have e4 := open_pay (l := l) (cents := cents) l.length (Nat.le_refl _)
    have e5 : 0 < payN l cents l.length → openTo (payL l cents) l.length = 0 := fun hl => open_none g1 g2 hl l.length (Nat.le_refl _)
    rw [← pl] at e4 e5
    refine ACall.of (iPay_good l cents l2 hg _ _ _ (Sl.of rfl)) ?_
    simp -dsimp -implicitDefEqProofs (disch := omega) [go_sem, -List.getD_eq_getElem?_getD, ite_yes]
    refine ACall.of (sPay_good l cents l2 hg _ _ _ (Sl.of rfl)) ?_
    have A1 := fun c H t hS => iOpen_A l l2 c H t hS
    have A2 := fun c H t hS => iOpen_A (payL l cents) p2 c H t hS
    have A3 := fun c H t hS => iOld_A (payL l cents) r hr p2 c H t hS
    have A4 := fun c H t hS => iValidBills_A (payL l cents) p2 c H t hS
    rw [e1, g1] at A1
    rw [e2, gp] at A2
    rw [e3] at A3
    rw [gp] at A4
    generalize oldN (payL l cents) r = old at *
    rw [pl] at opb A2 A3 A4 e4 e5
    generalize openTo (payL l cents) l.length = b at *
    generalize openTo l l.length = a at *
    generalize payN l cents l.length = left at *
    simp -dsimp -implicitDefEqProofs (disch := omega) [go_sem, -List.getD_eq_getElem?_getD, ite_yes]
    refine ACall.of (rBills_same (payL l cents) p2 _ _ _ _ _ (Sl.nth 1 rfl rfl) (Sl.nth 2 rfl rfl)) ?_
    simp -dsimp -implicitDefEqProofs (disch := omega) [go_sem, -List.getD_eq_getElem?_getD, ite_yes]
    refine ACall.of (A1 _ _ _ (Sl.of rfl)) ?_
    simp -dsimp -implicitDefEqProofs (disch := omega) [go_sem, -List.getD_eq_getElem?_getD, ite_yes]
    rw [pl]
    refine ACall.of (A2 _ _ _ (Sl.nth 1 rfl rfl)) ?_
    simp -dsimp -implicitDefEqProofs (disch := omega) [go_sem, -List.getD_eq_getElem?_getD, ite_yes]
    refine ACall.of (A3 _ _ _ (Sl.nth 1 rfl rfl)) ?_
    have e6 : a - b = cents - left := by omega
    have hwr : ¬ (a - b ≠ cents - left) := fun h => h e6
    by_cases hl0 : 0 < left
    · have hb0 : b = 0 := e5 hl0
      subst hb0
      simp -dsimp -implicitDefEqProofs (disch := omega) [go_sem, -List.getD_eq_getElem?_getD, ite_yes, e6, hl0]
      refine ACall.of (A4 _ _ _ (Sl.nth 1 rfl rfl)) ?_
      simp -dsimp -implicitDefEqProofs (disch := omega) [go_sem, -List.getD_eq_getElem?_getD, ite_yes]
      exact ⟨weakS_drop (by simp -dsimp -implicitDefEqProofs (disch := omega) [go_sem, -List.getD_eq_getElem?_getD, ite_yes, ht])⟩
    · simp -dsimp -implicitDefEqProofs (disch := omega) [go_sem, -List.getD_eq_getElem?_getD, ite_yes, e6, hl0]
      refine ACall.of (A4 _ _ _ (Sl.nth 1 rfl rfl)) ?_
      simp -dsimp -implicitDefEqProofs (disch := omega) [go_sem, -List.getD_eq_getElem?_getD, ite_yes]
      exact ⟨weakS_drop (by simp -dsimp -implicitDefEqProofs (disch := omega) [go_sem, -List.getD_eq_getElem?_getD, ite_yes, ht])⟩
  simp only [AWp_drop, AWp_drop0]
  refine AWp.step 3 [(0, .slice (some ⟨tc, 0, none⟩) n cc)] H (by kernel_rfl) (by kernel_rfl) ?_ ?_
  · simp -dsimp -implicitDefEqProofs (disch := omega) [go_sem, -List.getD_eq_getElem?_getD, ite_yes]
    refine ACall.via (drawRefundBill_R h cc) ?_
    rintro _ _ ⟨l, id, rfl, l1, rfl⟩
    have l2 : l.length ≤ 1048577 := by omega
    obtain ⟨r, hr⟩ := found_ex (0, 0, 0, 0) (isIdB id) l _ 0 rfl (fun i hi => absurd hi (Nat.not_lt_zero _)) (Nat.zero_le _)
    simp -dsimp -implicitDefEqProofs (disch := omega) [go_sem, -List.getD_eq_getElem?_getD, ite_yes]
    cases hg : refOk l r
    · refine ACall.of (iRef_bad l id r hr l2 hg _ _ _ (Sl.of rfl)) ?_
      simp -dsimp -implicitDefEqProofs (disch := omega) [go_sem, -List.getD_eq_getElem?_getD, ite_yes]
      refine ACall.of (sRef_bad l id r hr l2 hg _ _ _ (Sl.of rfl)) ?_
      simp -dsimp -implicitDefEqProofs (disch := omega) [go_sem, -List.getD_eq_getElem?_getD, ite_yes]
      refine ACall.of (rBills_nil _ _ _) ?_
      simp -dsimp -implicitDefEqProofs (disch := omega) [go_sem, -List.getD_eq_getElem?_getD, ite_yes]
      exact ⟨weakS_drop (by simp -dsimp -implicitDefEqProofs (disch := omega) [go_sem, -List.getD_eq_getElem?_getD, ite_yes, ht])⟩
    · simp only [refOk, Bool.and_eq_true, decide_eq_true_eq] at hg
      obtain ⟨i, hi, rfl⟩ : ∃ i : Nat, i < l.length ∧ r = (i : Int) := by
        cases hr with
        | yes i h1 h2 h3 => exact ⟨i, h1, rfl⟩
        | no h3 => omega
      have cl := cutB_length hi
      refine ACall.of (iRef_good l id i hr hi l2 hg.1 _ _ _ (Sl.of rfl)) ?_
      simp -dsimp -implicitDefEqProofs (disch := omega) [go_sem, -List.getD_eq_getElem?_getD, ite_yes]
      refine ACall.of (sRef_good l id i hr hi l2 hg.1 _ _ _ (Sl.of rfl) (by unfold blkSz; rw [Heap.get_len]; rfl)) ?_
      simp -dsimp -implicitDefEqProofs (disch := omega) [go_sem, -List.getD_eq_getElem?_getD, ite_yes]
      refine ACall.of (rBills_same (cutB l i) (by omega) _ _ _ _ _ (Sl.nth 1 rfl rfl) (Sl.nth 2 rfl rfl)) ?_
      simp -dsimp -implicitDefEqProofs (disch := omega) [go_sem, -List.getD_eq_getElem?_getD, ite_yes]
      exact ⟨weakS_drop (by simp -dsimp -implicitDefEqProofs (disch := omega) [go_sem, -List.getD_eq_getElem?_getD, ite_yes, ht])⟩
  simp only [AWp_drop, AWp_drop0]
  refine AWp.step 3 [(0, .slice (some ⟨tc, 0, none⟩) n cc)] H (by kernel_rfl) (by kernel_rfl) ?_ ?_
  · simp -dsimp -implicitDefEqProofs (disch := omega) [go_sem, -List.getD_eq_getElem?_getD, ite_yes]
    refine ACall.via (drawInstallments_R h cc) ?_
    rintro _ _ ⟨cents, k, rfl, rfl⟩
    simp -dsimp -implicitDefEqProofs (disch := omega) [go_sem, -List.getD_eq_getElem?_getD, ite_yes]
    cases hg : instOk cents k
    · refine ACall.of (iInst_bad cents k hg _) ?_
      simp -dsimp -implicitDefEqProofs (disch := omega) [go_sem, -List.getD_eq_getElem?_getD, ite_yes]
      refine ACall.of (sInst_bad cents k hg _) ?_
      simp -dsimp -implicitDefEqProofs (disch := omega) [go_sem, -List.getD_eq_getElem?_getD, ite_yes]
      refine ADraw.quiet (by kernel_rfl) (by kernel_rfl) (by kernel_rfl) ?_
      simp -dsimp -implicitDefEqProofs (disch := omega) [go_sem, -List.getD_eq_getElem?_getD, ite_yes]
      refine ACallQ.of (rInts_nil _ _ _) rfl ?_
      simp -dsimp -implicitDefEqProofs (disch := omega) [go_sem, -List.getD_eq_getElem?_getD, ite_yes]
      exact ⟨weakS_drop (by simp -dsimp -implicitDefEqProofs (disch := omega) [go_sem, -List.getD_eq_getElem?_getD, ite_yes, ht])⟩
    · obtain ⟨h1, h2, h3, h4, h5⟩ := inst_at hg
      obtain ⟨m, rfl⟩ : ∃ m : Nat, k = (m : Int) := ⟨k.toNat, by omega⟩
      have I1 := fun H => iInst_good cents m hg H
      have I2 := fun H => sInst_good cents m hg H
      have es := insts_all hg
      have il := insts_length cents m m
      have ir := fun i => instAt_rng hg i
      have g0 := insts_getD cents m (k := m) (i := 0) (by omega)
      have g1 := insts_getD cents m (k := m) (i := m - 1) (by omega)
      have hb : ∀ u ∈ insts cents m m, 0 ≤ u ∧ u ≤ 1000000001 := fun u hu => by
        simp only [insts, List.mem_map] at hu
        obtain ⟨i, _, rfl⟩ := hu
        exact ⟨(ir i).1, (ir i).2.1⟩
      rw [Int.toNat_natCast] at I1 I2 es
      have c0 := nmy_cell (insts cents m m) (q := 0) (by omega)
      have c1 := nmy_cell (insts cents m m) (q := m - 1) (by omega)
      rw [g0, List.drop_zero] at c0
      rw [g1] at c1
      have r0 := ir 0
      have r1 := ir (m - 1)
      have R := fun K t hS => rSumB_A (insts cents m m) hb (by omega) (insts cents m m).length K t hS
      rw [es] at R
      have i2 : (insts cents m m).length ≤ 1048577 := by omega
      have lf : ((insts cents m m).flatMap nmE).length = m := by rw [nmE_length, il, Nat.mul_one]
      refine ACall.of (I1 _) ?_
      simp -dsimp -implicitDefEqProofs (disch := omega) [go_sem, -List.getD_eq_getElem?_getD, ite_yes]
      refine ACall.of (I2 _) ?_
      generalize instAt cents m 0 = x0 at *
      generalize instAt cents m (m - 1) = x1 at *
      generalize hL : insts cents m m = L at *
      have hgt : ¬ 1 < x0 - x1 := by omega
      have hm0 : 0 < m := by omega
      have hm1 : m - 1 < m := by omega
      have em : (m : Int) - 1 = ((m - 1 : Nat) : Int) := by omega
      have hm2 : ((m - 1 : Nat) : Int) < (m : Int) := by omega
      simp -dsimp -implicitDefEqProofs (disch := omega) [go_sem, -List.getD_eq_getElem?_getD, ite_yes]
      refine ADraw.quiet (by kernel_rfl) (by kernel_rfl) (by kernel_rfl) ?_
      simp -dsimp -implicitDefEqProofs (disch := omega) [go_sem, -List.getD_eq_getElem?_getD, ite_yes]
      refine ACallQ.of (rInts_same L i2 _ _ _ _ _ (Sl.of rfl).ro (Sl.nth 1 rfl rfl).ro) rfl ?_
      simp -dsimp -implicitDefEqProofs (disch := omega) [go_sem, -List.getD_eq_getElem?_getD, ite_yes]
      refine ACallQ.of (R _ _ (Sl.of rfl).ro) rfl ?_
      simp -dsimp -implicitDefEqProofs (disch := omega) [go_sem, -List.getD_eq_getElem?_getD, ite_yes, il, em, lf, c0, c1, hm0, hm1, hm2, hgt]
      exact ⟨weakS_drop (by simp -dsimp -implicitDefEqProofs (disch := omega) [go_sem, -List.getD_eq_getElem?_getD, ite_yes, ht])⟩
  simp only [AWp_drop, AWp_drop0]
  refine AWp.stepR 1 (MkR H tc n cc) (by kernel_rfl) (by kernel_rfl) ?_ ?_
  · simp -dsimp -implicitDefEqProofs (disch := omega) [go_sem, -List.getD_eq_getElem?_getD, ite_yes]
    refine ACall.via (drawMakeBill_R h cc) ?_
    rintro _ _ ⟨l, N, xs, bs, off, cp, vol, day, rfl, l1, b1, hd, rfl⟩
    simp -dsimp -implicitDefEqProofs (disch := omega) [go_sem, -List.getD_eq_getElem?_getD, ite_yes]
    refine StepR.of _ _ ⟨l, N, xs, bs, off, cp, vol, day, rfl, l1, b1, hd, rfl⟩ (weakS_mk [some 0, some 1, some 2] rfl ?_ (by simp -dsimp -implicitDefEqProofs (disch := omega) [go_sem, -List.getD_eq_getElem?_getD, ite_yes, ht]))
    simp -dsimp -implicitDefEqProofs (disch := omega) [go_sem, -List.getD_eq_getElem?_getD, ite_yes]
    exact ⟨.inl ⟨rfl, blE_flat _⟩, .inl ⟨rfl, bkE_flat _⟩, .inr ⟨rfl, ⟨show H.length + 1 < H.length + 3 by omega, .inl ⟨H.length + 1, cp, by simp [sg], rfl⟩⟩, trivial⟩⟩
  rintro _ _ ⟨l, N, xs, bs, off, cp, vol, day, rfl, l1, b1, hd, rfl⟩
  refine AWp.shiftC (H ++ [some ⟨l.flatMap blE, true, 62, 4⟩, none, some ⟨[.int .i64 N, .slice (some ⟨H.length + 3, 0, none⟩) bs.length 0], true, 39, 1⟩, some ⟨bs.flatMap bkE, false, 87, 2⟩]) (t := H.length + 1) (u := H.length + 2) (m := H.length + 3) (k' := 0) (b := ⟨xs.flatMap bkE, true, 87, 2⟩) (by rw [Heap.get_len_add]; rfl) (by rw [Heap.get_len_add]; rfl) (by omega) (by omega) (by rw [← hd, Heap.set_len_add, List.append_assoc, Heap.set_len_add]; rfl) (by simp) ?_
  have l2 : l.length ≤ 1048577 := by omega
  have b2 : bs.length ≤ 1048577 := by omega
  simp only [AWp_drop, AWp_drop0]
  refine AWp.step 3 [(0, .slice (some ⟨tc, 0, none⟩) n cc)] H (by kernel_rfl) (by kernel_rfl) ?_ ?_
  · obtain ⟨nb, hnb⟩ : ∃ nb, nb = newB l N bs vol day := ⟨_, rfl⟩
    obtain ⟨mm, hmm⟩ : ∃ mm, mm = l ++ [nb] := ⟨_, rfl⟩
    have hmm' : mm = l ++ [newB l N bs vol day] := by rw [hmm, hnb]
    have ml : mm.length = l.length + 1 := by rw [hmm]; simp
    cases hg : mkOk l N bs vol day
    · simp -dsimp -implicitDefEqProofs (disch := omega) [go_sem, -List.getD_eq_getElem?_getD, ite_yes]
      refine ACall.of (iMake_bad l mm N bs vol day hmm' l2 b2 hg _ _ _ _ _ (Sl.of rfl) (Sl.nth 3 rfl rfl)) ?_
      simp -dsimp -implicitDefEqProofs (disch := omega) [go_sem, -List.getD_eq_getElem?_getD, ite_yes]
      refine ACall.of (sMake_bad l mm N bs vol day hmm' l2 b2 hg _ _ _ _ _ (Sl.of rfl) (Sl.nth 3 rfl rfl)) ?_
      simp -dsimp -implicitDefEqProofs (disch := omega) [go_sem, -List.getD_eq_getElem?_getD, ite_yes]
      refine ACall.of (rBills_nil _ _ _) ?_
      simp -dsimp -implicitDefEqProofs (disch := omega) [go_sem, -List.getD_eq_getElem?_getD, ite_yes]
      exact ⟨weakS_drop (by simp -dsimp -implicitDefEqProofs (disch := omega) [go_sem, -List.getD_eq_getElem?_getD, ite_yes, ht])⟩
    · have hg' := hg
      simp only [mkOk, Bool.and_eq_true] at hg'
      have lst := flatMap_cells blE 4 (fun _ => rfl) (0, 0, 0, 0) mm l.length (by omega)
      have lg : mm.getD l.length (0, 0, 0, 0) = nb := by rw [hmm]; simp [List.getD]
      rw [lg, hnb] at lst
      simp only [blE] at lst
      have lf := blE_length mm
      have hml : l.length < mm.length := by omega
      have hmi : (l.length : Int) < (mm.length : Int) := by omega
      have em : (mm.length : Int) - 1 = (l.length : Int) := by omega
      have h4 : l.length * 4 + 4 ≤ mm.length * 4 := by omega
      have em2 : (mm.length : Int) = (l.length : Int) + 1 := by omega
      simp -dsimp -implicitDefEqProofs (disch := omega) [go_sem, -List.getD_eq_getElem?_getD, ite_yes]
      refine ACall.of (iMake_good l mm N bs vol day hmm' l2 b2 hg _ _ _ _ _ (Sl.of rfl) (Sl.nth 3 rfl rfl)) ?_
      simp -dsimp -implicitDefEqProofs (disch := omega) [go_sem, -List.getD_eq_getElem?_getD, ite_yes]
      refine ACall.of (sMake_good l mm N bs vol day hmm' l2 b2 hg _ _ _ _ _ (Sl.of rfl) (Sl.nth 3 rfl rfl)) ?_
      simp -dsimp -implicitDefEqProofs (disch := omega) [go_sem, -List.getD_eq_getElem?_getD, ite_yes]
      refine ACall.of (rBills_same mm (by omega) _ _ _ _ _ (Sl.nth 4 rfl rfl) (Sl.nth 5 rfl rfl)) ?_
      simp -dsimp -implicitDefEqProofs (disch := omega) [go_sem, -List.getD_eq_getElem?_getD, ite_yes]
      refine ACall.of (iCostOf_A N bs vol b2 _ _ _ (Sl.nth 3 rfl rfl)) ?_
      rw [hg'.1]
      simp -dsimp -implicitDefEqProofs (disch := omega) [go_sem, -List.getD_eq_getElem?_getD, ite_yes, em, lf, hml, hmi, lst, h4, em2]
      exact ⟨weakS_drop (by simp -dsimp -implicitDefEqProofs (disch := omega) [go_sem, -List.getD_eq_getElem?_getD, ite_yes, ht])⟩
  simp only [AWp_drop, AWp_drop0]
  refine AWp.last (by kernel_rfl) ?_
  simp -dsimp -implicitDefEqProofs (disch := omega) [go_sem, -List.getD_eq_getElem?_getD, ite_yes]
  refine ACall.via (drawOldestOpen_R h cc) ?_
  rintro _ _ ⟨l, rfl, l1, rfl⟩
  have l2 : l.length ≤ 1048577 := by omega
  obtain ⟨r, hr⟩ := found_ex (0, 0, 0, 0) isOpenB l _ 0 rfl (fun i hi => absurd hi (Nat.not_lt_zero _)) (Nat.zero_le _)
  simp -dsimp -implicitDefEqProofs (disch := omega) [go_sem, -List.getD_eq_getElem?_getD, ite_yes]
  refine ACall.of (iOld_A l r hr l2 _ _ _ (Sl.of rfl)) ?_
  simp -dsimp -implicitDefEqProofs (disch := omega) [go_sem, -List.getD_eq_getElem?_getD, ite_yes]
  refine ACall.of (sOld_A l r hr l2 _ _ _ (Sl.of rfl)) ?_
  simp -dsimp -implicitDefEqProofs (disch := omega) [go_sem, -List.getD_eq_getElem?_getD, ite_yes]
  exact fin_flat rfl rfl
end Go.Proofs.Ytappbdfieccfeaa
