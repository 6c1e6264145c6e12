/- FnWalks: the law. -/
import Derived.Test.YtkjgmppcgcimgaaDrawWalks
import Derived.Test.YtkjgmppcgcimgaaWalksLaw
import Derived.Test.YtkjgmppcgcimgaaNodeTasks
import Derived.Test.YtkjgmppcgcimgaaLawNm
namespace Go.Proofs.Ytkjgmppcgcimgaa
open Go.Am
set_option linter.unusedVariables false
set_option linter.unusedSimpArgs false
set_option maxRecDepth 100000
set_option maxHeartbeats 4000000

theorem rHas_A (l : List Int) (n : Int) (hl : l.length ≤ 1048577) (c : Nat) (H : Heap) (t : Nat) (hS : Sl nmE H t l) :
    AFunC Try.prog 19 [.slice (some ⟨t, 0, none⟩) l.length c, .int .i64 n] H (.bool (hasI l n)) H := by
  refine AFunC.of_body Try.func19 (by kernel_rfl) rfl (by kernel_rfl) (by simp [Try.ntmps19]) ?_
  have ht := hS.lt
  have cs := fun k hk => hS.one (g := fun n => Value.int .i64 n) 0 k hk
  simp -dsimp -implicitDefEqProofs (disch := omega) [go_sem, -List.getD_eq_getElem?_getD, ite_yes]
  refine ALoop.intro (ι := Nat) (fun k => k ≤ l.length ∧ ∀ i, i < k → l.getD i 0 ≠ n) (fun k => [(0, .slice (some ⟨t, 0, none⟩) l.length c), (1, .int .i64 n), (5, .int .i64 k)]) (fun _ => H) (fun k => l.length - k) 0 ⟨by omega, fun i hi => by omega⟩ ?_ ?_
  · exact weakS_same (by simp -dsimp -implicitDefEqProofs (disch := omega) [go_sem, -List.getD_eq_getElem?_getD, ite_yes, ht])
  · rintro k ⟨hk, hf⟩
    by_cases hlt : k < l.length
    · by_cases h : l.getD k 0 = n
      · simp -dsimp -implicitDefEqProofs (disch := omega) [go_sem, -List.getD_eq_getElem?_getD, ite_yes, hlt, cs, h]
        exact fin_flat0 rfl (by rw [hasI_yes hlt h])
      · simp -dsimp -implicitDefEqProofs (disch := omega) [go_sem, -List.getD_eq_getElem?_getD, ite_yes, hlt, cs, h]
        refine LoopEnd.of (k + 1) ⟨by omega, fun i hi => ?_⟩ (by omega) (weakS_same (by simp -dsimp -implicitDefEqProofs (disch := omega) [go_sem, -List.getD_eq_getElem?_getD, ite_yes, ht]))
        rcases Nat.lt_or_ge i k with h' | h'
        · exact hf i h'
        · rw [show i = k by omega]; exact h
    · simp -dsimp -implicitDefEqProofs (disch := omega) [go_sem, -List.getD_eq_getElem?_getD, ite_yes, hlt]
      exact fin_flat0 rfl (by rw [hasI_no (fun i hi => hf i (by omega))])
theorem lawWalks_A {H : Heap} {tc n : Nat} (h : Bytes H tc n) (cc : Nat) : AFunC Try.prog 4 [.slice (some ⟨tc, 0, none⟩) n cc] H (.bool true) H := by
  refine AFunC.of_awp Try.func4 (by kernel_rfl) rfl (by simp [Try.ntmps4]) ?_
  have ht := h.lt
  refine AWp.step 2 [(0, .slice (some ⟨tc, 0, none⟩) n cc)] H (by kernel_rfl) (by kernel_rfl) ?_ ?_
  · simp -dsimp -implicitDefEqProofs (disch := omega) [go_sem, -List.getD_eq_getElem?_getD, ite_yes]
    refine ACall.of (rBig_A _ _ _ _) ?_
    simp -dsimp -implicitDefEqProofs (disch := omega) [go_sem, -List.getD_eq_getElem?_getD, ite_yes]
    refine AIf.of (fun h' => ?_) (fun h' => ?_)
    · simp -dsimp -implicitDefEqProofs (disch := omega) [go_sem, -List.getD_eq_getElem?_getD, ite_yes]
      exact fin_flat0 rfl rfl
    · simp -dsimp -implicitDefEqProofs (disch := omega) [go_sem, -List.getD_eq_getElem?_getD, ite_yes]
      exact ⟨weakS_same (by simp -dsimp -implicitDefEqProofs (disch := omega) [go_sem, -List.getD_eq_getElem?_getD, ite_yes, ht])⟩
  simp only [AWp_drop, AWp_drop0]
  refine AWp.step 6 [(0, .slice (some ⟨tc, 0, none⟩) n cc)] H (by kernel_rfl) (by kernel_rfl) ?_ ?_
  · simp -dsimp -implicitDefEqProofs (disch := omega) [go_sem, -List.getD_eq_getElem?_getD, ite_yes]
    refine ACall.via (drawBestWalk_R h cc) ?_
    rintro _ _ ⟨N, ps, l, src, cp, rfl, p1, l1, rfl⟩
    have p2 : ps.length ≤ 1048577 := by omega
    have l2 : l.length ≤ 1048577 := by omega
    simp -dsimp -implicitDefEqProofs (disch := omega) [go_sem, -List.getD_eq_getElem?_getD, ite_yes]
    refine ACall.of (iWalkSteps_A N ps p2 cp l l2 _ src _ _ _ (Sl.of rfl) (Sl.nth 1 rfl rfl)) ?_
    simp -dsimp -implicitDefEqProofs (disch := omega) [go_sem, -List.getD_eq_getElem?_getD, ite_yes]
    refine ACall.of (sWalkSteps_A N ps p2 cp l l2 _ src _ _ _ (Sl.of rfl) (Sl.nth 1 rfl rfl)) ?_
    simp -dsimp -implicitDefEqProofs (disch := omega) [go_sem, -List.getD_eq_getElem?_getD, ite_yes]
    cases hg : twB N ps l src
    · refine ACall.of (iBestWalk_bad N ps p2 cp l l2 _ src _ _ _ (Sl.of rfl) (Sl.nth 1 rfl rfl) hg) ?_
      simp -dsimp -implicitDefEqProofs (disch := omega) [go_sem, -List.getD_eq_getElem?_getD, ite_yes]
      refine ACall.of (sBestWalk_bad N ps p2 cp l l2 _ src _ _ _ (Sl.of rfl) (Sl.nth 1 rfl rfl) hg) ?_
      simp -dsimp -implicitDefEqProofs (disch := omega) [go_sem, -List.getD_eq_getElem?_getD, ite_yes]
      refine ACall.of (rInts_nil _ _ _) ?_
      simp -dsimp -implicitDefEqProofs (disch := omega) [go_sem, -List.getD_eq_getElem?_getD, ite_yes]
      exact ⟨weakS_drop (by simp -dsimp -implicitDefEqProofs (disch := omega) [go_sem, -List.getD_eq_getElem?_getD, ite_yes, ht])⟩
    obtain ⟨hz, m, rfl, ok⟩ := twB_ok hg
    have W := walk_at hg
    have bs := bestK_small m ps l src l2
    refine ACall.of (iBestWalk_good m ps p2 cp l l2 _ src _ _ _ (Sl.of rfl) (Sl.nth 1 rfl rfl) hg) ?_
    simp -dsimp -implicitDefEqProofs (disch := omega) [go_sem, -List.getD_eq_getElem?_getD, ite_yes]
    refine ACall.of (sBestWalk_good m ps p2 cp l l2 _ src _ _ _ (Sl.of rfl) (Sl.nth 1 rfl rfl) hg) ?_
    generalize bestK m ps l src = q at *
    obtain ⟨w1, w2, w3, w4, w5, w6⟩ := W
    have hzr := resW_rng m ps l src
    rw [posZ_pos (by omega), decide_eq_true hz]
    have hle : ¬ q.2 > resW m ps l src := by omega
    have hle' : ¬ resW m ps l src < q.2 := by omega
    simp -dsimp -implicitDefEqProofs (disch := omega) [go_sem, -List.getD_eq_getElem?_getD, ite_yes]
    refine ACall.of (rInts_same q.1 bs _ _ _ _ _ (Sl.nth 3 rfl rfl) (Sl.nth 4 rfl rfl)) ?_
    simp -dsimp -implicitDefEqProofs (disch := omega) [go_sem, -List.getD_eq_getElem?_getD, ite_yes, hle, hle']
    refine ALoop.intro (ι := (Int × Int) × Nat) (fun i => i.2 ≤ q.1.length ∧ wk m ps l src q.1 i.2 = some i.1) (fun i => [(0, .slice (some ⟨tc, 0, none⟩) n cc), (3, .pointer (some ⟨H.length + 2, 0, none⟩)), (4, .slice (some ⟨H.length + 1, 0, none⟩) l.length l.length), (10, .slice (some ⟨H.length + 3, 0, none⟩) q.1.length 0), (11, .int .i64 q.2), (16, .int .i64 i.1.1), (17, .int .i64 i.1.2), (18, .int .i64 i.2)])
      (fun i => H ++ [some ⟨ps.flatMap ppE, true, 86, 4⟩, some ⟨l.flatMap tkE, true, 48, 3⟩, some ⟨[.int .i64 m, .slice (some ⟨H.length, 0, none⟩) ps.length cp], true, 32, 1⟩, some ⟨q.1.flatMap nmE, true, 3, 1⟩]) (fun i => q.1.length - i.2) ((0, src), 0) ⟨Nat.zero_le _, rfl⟩ ?_ ?_
    · refine weakS_mk [some 0, some 1, some 2, some 3] rfl ?_ (by simp -dsimp -implicitDefEqProofs (disch := omega) [go_sem, -List.getD_eq_getElem?_getD, ite_yes, ht])
      simp -dsimp -implicitDefEqProofs (disch := omega) [go_sem, -List.getD_eq_getElem?_getD, ite_yes]
      exact ⟨.inl ⟨rfl, ppE_flat _⟩, .inl ⟨rfl, tkE_flat _⟩, .inr ⟨rfl, ⟨show H.length < H.length + 4 by omega, .inl ⟨H.length, cp, by simp [sg], rfl⟩⟩, trivial⟩, .inl ⟨rfl, nmE_flat _⟩⟩
    rintro ⟨⟨s, f⟩, k⟩ ⟨hk, hw⟩
    simp only at hk hw
    by_cases hlt : k < q.1.length
    rotate_left
    · obtain rfl : k = q.1.length := by omega
      have hs := w6 s f hw
      have hl := w1
      simp -dsimp -implicitDefEqProofs (disch := omega) [go_sem, -List.getD_eq_getElem?_getD, ite_yes, hlt, hs, hl]
      exact ⟨weakS_drop (by simp -dsimp -implicitDefEqProofs (disch := omega) [go_sem, -List.getD_eq_getElem?_getD, ite_yes, ht])⟩
    have hlti : (k : Int) < (q.1.length : Int) := by omega
    have hq := w3 k hlt
    obtain ⟨g1, g2, g3, g4⟩ := w5 k s f hlt hw
    have hnd := w4 k hlt
    have cu := nmx_cell q.1 hlt
    obtain ⟨y, hy⟩ : ∃ y : Nat, q.1.getD k 0 = (y : Int) := ⟨(q.1.getD k 0).toNat, by omega⟩
    rw [hy] at hq cu hnd g1 g2
    rw [Int.toNat_natCast] at g1 g2
    have hyl : y < l.length := by omega
    have hyi : (y : Int) < (l.length : Int) := by omega
    have ct := flatMap_cells tkE 3 (fun _ => rfl) (0, 0, 0) l y hyl
    have hql : (q.1.flatMap nmE).length = q.1.length := by rw [nmE_length, Nat.mul_one]
    have hll : (l.flatMap tkE).length = l.length * 3 := tkE_length l
    have hy3 : y * 3 + 3 ≤ l.length * 3 := by omega
    generalize l.getD y (0, 0, 0) = x at *
    simp only [tkE] at ct
    have hxs : tkE x = [Value.int .i64 x.1, .int .i64 x.2.1, .int .i64 x.2.2] := rfl
    have A := fun K tp t hP hS => iWalkSteps_A m ps p2 cp [x] (by simp) 1 f K tp t hP hS
    rw [posZ_pos (by omega), decide_eq_true g1] at A
    have hrn := resW_rng m ps [x] f
    generalize resW m ps [x] f = z at *
    simp -dsimp -implicitDefEqProofs (disch := omega) [go_sem, -List.getD_eq_getElem?_getD, ite_yes, hlt, hlti, cu, ct, hyl, hyi, hql, hll, hy3]
    refine ACall.of (A _ _ _ (Sl.of rfl) (Sl.nth 5 rfl (by rw [List.flatMap_cons, List.flatMap_nil, List.append_nil]; rfl))) ?_
    have htk : (q.1.take k).length = k := by rw [List.length_take]; omega
    have R := fun K hU => rHas_A (q.1.take k) (y : Int) (by omega) k K (H.length + 3) hU
    rw [hnd, htk] at R
    simp -dsimp -implicitDefEqProofs (disch := omega) [go_sem, -List.getD_eq_getElem?_getD, ite_yes]
    refine ADraw.quiet (by kernel_rfl) (by kernel_rfl) (by kernel_rfl) ?_
    simp -dsimp -implicitDefEqProofs (disch := omega) [go_sem, -List.getD_eq_getElem?_getD, ite_yes, hlt, hlti, cu, hql, hk]
    refine ACallQ.of (R _ ((Sl.nth (l := q.1) 3 rfl rfl).take k).ro) rfl ?_
    simp -dsimp -implicitDefEqProofs (disch := omega) [go_sem, -List.getD_eq_getElem?_getD, ite_yes]
    refine LoopEnd.of ((s + z, x.2.1), k + 1) ⟨by simp only; omega, g2⟩ (by simp only; omega) (weakS_mk [some 0, some 1, some 2, some 3] rfl ?_ (by simp -dsimp -implicitDefEqProofs (disch := omega) [go_sem, -List.getD_eq_getElem?_getD, ite_yes, ht]))
    simp -dsimp -implicitDefEqProofs (disch := omega) [go_sem, -List.getD_eq_getElem?_getD, ite_yes]
    exact ⟨.inl ⟨rfl, ppE_flat _⟩, .inl ⟨rfl, tkE_flat _⟩, .inr ⟨rfl, ⟨show H.length < H.length + 4 by omega, .inl ⟨H.length, cp, by simp [sg], rfl⟩⟩, trivial⟩, .inl ⟨rfl, nmE_flat _⟩⟩
  simp only [AWp_drop, AWp_drop0]
  refine AWp.last (by kernel_rfl) ?_
  simp -dsimp -implicitDefEqProofs (disch := omega) [go_sem, -List.getD_eq_getElem?_getD, ite_yes]
  refine ACall.via (drawNodeTasks_R h cc) ?_
  rintro _ _ ⟨l, x, rfl, l1, rfl⟩
  have l2 : l.length ≤ 1048577 := by omega
  simp -dsimp -implicitDefEqProofs (disch := omega) [go_sem, -List.getD_eq_getElem?_getD, ite_yes]
  cases hg : nodeOk l x
  · refine ACall.of (iNode_bad l x l2 hg _ _ _ (Sl.of rfl)) ?_
    simp -dsimp -implicitDefEqProofs (disch := omega) [go_sem, -List.getD_eq_getElem?_getD, ite_yes]
    refine ACall.of (sNode_bad l x l2 hg _ _ _ (Sl.of rfl)) ?_
    simp -dsimp -implicitDefEqProofs (disch := omega) [go_sem, -List.getD_eq_getElem?_getD, ite_yes]
    refine ACall.of (rInts_nil _ _ _) ?_
    simp -dsimp -implicitDefEqProofs (disch := omega) [go_sem, -List.getD_eq_getElem?_getD, ite_yes]
    exact fin_flat rfl rfl
  · refine ACall.of (iNode_good l x l2 hg _ _ _ (Sl.of rfl)) ?_
    simp -dsimp -implicitDefEqProofs (disch := omega) [go_sem, -List.getD_eq_getElem?_getD, ite_yes]
    refine ACall.of (sNode_good l x l2 hg _ _ _ (Sl.of rfl)) ?_
    simp -dsimp -implicitDefEqProofs (disch := omega) [go_sem, -List.getD_eq_getElem?_getD, ite_yes]
    refine ACall.of (rInts_same (nodeTo l x l.length) (Nat.le_trans (nodeTo_len l x _) l2) _ _ _ _ _ (Sl.nth 1 rfl rfl) (Sl.nth 2 rfl rfl)) ?_
    simp -dsimp -implicitDefEqProofs (disch := omega) [go_sem, -List.getD_eq_getElem?_getD, ite_yes]
    exact fin_flat rfl rfl
end Go.Proofs.Ytkjgmppcgcimgaa
