/- NextSampleDay: both sides, and the law. -/
import Derived.Test.YtjipihgcbanenaaSampleList
namespace Go.Proofs.Ytjipihgcbanenaa
open Go.Am
set_option linter.unusedVariables false
set_option linter.unusedSimpArgs false
set_option maxRecDepth 100000
set_option maxHeartbeats 1000000

def nsOk (l : List Sp) (node kind days : Int) : Bool := goodS l && (isNodeB node && (inB kind 1 4 && inB days 1 365))
def nsD (s : Sp) (days : Int) : Int := s.1 + (if offN s = 0 then days else 1)
def nsB (l : List Sp) (node kind days : Int) : Bool := if nsOk l node kind days = true then (if lastTo l node kind l.length < 0 then true else inB (nsD (l.getD (lastTo l node kind l.length).toNat (0, 0, 0, 0)) days) 0 3650) else false
def nsN (l : List Sp) (node kind days : Int) : Int := if nsOk l node kind days = true then (if lastTo l node kind l.length < 0 then 0 else if inB (nsD (l.getD (lastTo l node kind l.length).toNat (0, 0, 0, 0)) days) 0 3650 = true then nsD (l.getD (lastTo l node kind l.length).toNat (0, 0, 0, 0)) days else 0) else 0
theorem iNext_A (l : List Sp) (node kind days : Int) (hl : l.length ≤ 1048577) (c : Nat) (H : Heap) (t : Nat) (hS : Sl spE H t l) :
    AFunC Try.prog 12 [.slice (some ⟨t, 0, none⟩) l.length c, .int .i64 node, .int .i64 kind, .int .i64 days] H (.tuple #[.int .i64 (nsN l node kind days), .bool (nsB l node kind days)]) H := by
  refine AFunC.of_body Try.func12 (by kernel_rfl) rfl (by kernel_rfl) (by simp [Try.ntmps12]) ?_
  have ht := hS.lt
  have cs := fun k hk => hS.cells (s := 4) (fun _ => rfl) (0, 0, 0, 0) k hk
  have cs0 := fun k hk => hS.cell (s := 4) (fun _ => rfl) (0, 0, 0, 0) k 0 hk (by omega)
  simp only [spE, Nat.add_zero] at cs cs0
  simp -dsimp -implicitDefEqProofs (disch := omega) [go_sem, -List.getD_eq_getElem?_getD, ite_yes]
  refine ACall.of (areSamples_A l hl c _ t hS) ?_
  cases g1 : goodS l
  · simp -dsimp -implicitDefEqProofs (disch := omega) [go_sem, -List.getD_eq_getElem?_getD, ite_yes]
    exact fin_flat0 rfl (by simp [nsN, nsB, nsOk, g1])
  simp -dsimp -implicitDefEqProofs (disch := omega) [go_sem, -List.getD_eq_getElem?_getD, ite_yes]
  refine ACall.of (isNode_A _ _) ?_
  cases g2 : isNodeB node
  · simp -dsimp -implicitDefEqProofs (disch := omega) [go_sem, -List.getD_eq_getElem?_getD, ite_yes]
    exact fin_flat0 rfl (by simp [nsN, nsB, nsOk, g1, g2])
  simp -dsimp -implicitDefEqProofs (disch := omega) [go_sem, -List.getD_eq_getElem?_getD, ite_yes]
  refine ACall.of (isSampleKind_A _ _) ?_
  cases g3 : inB kind 1 4
  · simp -dsimp -implicitDefEqProofs (disch := omega) [go_sem, -List.getD_eq_getElem?_getD, ite_yes]
    exact fin_flat0 rfl (by simp [nsN, nsB, nsOk, g1, g2, g3])
  simp -dsimp -implicitDefEqProofs (disch := omega) [go_sem, -List.getD_eq_getElem?_getD, ite_yes]
  refine ACall.of (inside_A _ _ _ _) ?_
  cases g4 : inB days 1 365
  · simp -dsimp -implicitDefEqProofs (disch := omega) [go_sem, -List.getD_eq_getElem?_getD, ite_yes]
    exact fin_flat0 rfl (by simp [nsN, nsB, nsOk, g1, g2, g3, g4])
  have gok : nsOk l node kind days = true := by simp [nsOk, g1, g2, g3, g4]
  have g4' := g4
  simp only [inB, Bool.and_eq_true, decide_eq_true_eq] at g4'
  simp -dsimp -implicitDefEqProofs (disch := omega) [go_sem, -List.getD_eq_getElem?_getD, ite_yes]
  refine ACall.of (lastSample_A l node kind hl c _ t hS) ?_
  have lt := lastTo_lt l node kind l.length
  by_cases h0 : lastTo l node kind l.length < 0
  · simp -dsimp -implicitDefEqProofs (disch := omega) [go_sem, -List.getD_eq_getElem?_getD, ite_yes, h0]
    exact fin_flat0 rfl (by simp [nsN, nsB, gok, h0])
  obtain ⟨i, hi⟩ : ∃ i : Nat, lastTo l node kind l.length = (i : Int) := ⟨(lastTo l node kind l.length).toNat, by omega⟩
  rw [hi] at lt h0
  have il : i < l.length := by omega
  have hs := goodS_at g1 il
  have hd : 0 ≤ (l.getD i (0, 0, 0, 0)).1 ∧ (l.getD i (0, 0, 0, 0)).1 ≤ 3650 := by
    have := hs
    simp only [isSmp, inB, Bool.and_eq_true, decide_eq_true_eq] at this
    omega
  have ci := cs i il
  have ci0 := cs0 i il
  have nb : nsB l node kind days = inB (nsD (l.getD i (0, 0, 0, 0)) days) 0 3650 := by
    unfold nsB; rw [if_pos gok, hi, if_neg h0, Int.toNat_natCast]
  have nn : nsN l node kind days = if inB (nsD (l.getD i (0, 0, 0, 0)) days) 0 3650 = true then nsD (l.getD i (0, 0, 0, 0)) days else 0 := by
    unfold nsN; rw [if_pos gok, hi, if_neg h0, Int.toNat_natCast]
  simp -dsimp -implicitDefEqProofs (disch := omega) [go_sem, -List.getD_eq_getElem?_getD, ite_yes, hi, h0, il, ci]
  refine ACall.of (isGood_A (l.getD i (0, 0, 0, 0)) hs _) ?_
  by_cases h1 : offN (l.getD i (0, 0, 0, 0)) = 0
  · have e : (l.getD i (0, 0, 0, 0)).1 + days = nsD (l.getD i (0, 0, 0, 0)) days := by unfold nsD; rw [if_pos h1]
    simp -dsimp -implicitDefEqProofs (disch := omega) [go_sem, -List.getD_eq_getElem?_getD, ite_yes, h1, il, ci0, e]
    refine ACall.of (isDay_A _ _) ?_
    cases g5 : inB (nsD (l.getD i (0, 0, 0, 0)) days) 0 3650
    · simp -dsimp -implicitDefEqProofs (disch := omega) [go_sem, -List.getD_eq_getElem?_getD, ite_yes]
      exact fin_flat0 rfl (by rw [nb, nn, g5]; rfl)
    · simp -dsimp -implicitDefEqProofs (disch := omega) [go_sem, -List.getD_eq_getElem?_getD, ite_yes, il, ci0, e]
      exact fin_flat0 rfl (by rw [nb, nn, g5]; rfl)
  · have e : (l.getD i (0, 0, 0, 0)).1 + 1 = nsD (l.getD i (0, 0, 0, 0)) days := by unfold nsD; rw [if_neg h1]
    simp -dsimp -implicitDefEqProofs (disch := omega) [go_sem, -List.getD_eq_getElem?_getD, ite_yes, h1, il, ci0, e]
    refine ACall.of (isDay_A _ _) ?_
    cases g5 : inB (nsD (l.getD i (0, 0, 0, 0)) days) 0 3650
    · simp -dsimp -implicitDefEqProofs (disch := omega) [go_sem, -List.getD_eq_getElem?_getD, ite_yes]
      exact fin_flat0 rfl (by rw [nb, nn, g5]; rfl)
    · simp -dsimp -implicitDefEqProofs (disch := omega) [go_sem, -List.getD_eq_getElem?_getD, ite_yes, il, ci0, e]
      exact fin_flat0 rfl (by rw [nb, nn, g5]; rfl)
theorem sNext_A (l : List Sp) (node kind days : Int) (hl : l.length ≤ 1048577) (c : Nat) (H : Heap) (t : Nat) (hS : Sl spE H t l) :
    AFunC Try.prog 11 [.slice (some ⟨t, 0, none⟩) l.length c, .int .i64 node, .int .i64 kind, .int .i64 days] H (.tuple #[.int .i64 (nsN l node kind days), .bool (nsB l node kind days)]) H := by
  refine AFunC.of_body Try.func11 (by kernel_rfl) rfl (by kernel_rfl) (by simp [Try.ntmps11]) ?_
  have ht := hS.lt
  have cs := fun k hk => hS.cells (s := 4) (fun _ => rfl) (0, 0, 0, 0) k hk
  have cs0 := fun k hk => hS.cell (s := 4) (fun _ => rfl) (0, 0, 0, 0) k 0 hk (by omega)
  simp only [spE, Nat.add_zero] at cs cs0
  simp -dsimp -implicitDefEqProofs (disch := omega) [go_sem, -List.getD_eq_getElem?_getD, ite_yes]
  refine ACall.of (l23Good_A l hl c _ t hS) ?_
  cases g1 : goodS l
  · simp -dsimp -implicitDefEqProofs (disch := omega) [go_sem, -List.getD_eq_getElem?_getD, ite_yes]
    exact fin_flat0 rfl (by simp [nsN, nsB, nsOk, g1])
  simp -dsimp -implicitDefEqProofs (disch := omega) [go_sem, -List.getD_eq_getElem?_getD, ite_yes]
  refine ACall.of (l23Node_A _ _) ?_
  cases g2 : isNodeB node
  · simp -dsimp -implicitDefEqProofs (disch := omega) [go_sem, -List.getD_eq_getElem?_getD, ite_yes]
    exact fin_flat0 rfl (by simp [nsN, nsB, nsOk, g1, g2])
  simp -dsimp -implicitDefEqProofs (disch := omega) [go_sem, -List.getD_eq_getElem?_getD, ite_yes]
  refine ACall.of (l23Kind_A _ _) ?_
  cases g3 : inB kind 1 4
  · simp -dsimp -implicitDefEqProofs (disch := omega) [go_sem, -List.getD_eq_getElem?_getD, ite_yes]
    exact fin_flat0 rfl (by simp [nsN, nsB, nsOk, g1, g2, g3])
  simp -dsimp -implicitDefEqProofs (disch := omega) [go_sem, -List.getD_eq_getElem?_getD, ite_yes]
  refine ACall.of (l1In_A _ _ _ _) ?_
  cases g4 : inB days 1 365
  · simp -dsimp -implicitDefEqProofs (disch := omega) [go_sem, -List.getD_eq_getElem?_getD, ite_yes]
    exact fin_flat0 rfl (by simp [nsN, nsB, nsOk, g1, g2, g3, g4])
  have gok : nsOk l node kind days = true := by simp [nsOk, g1, g2, g3, g4]
  have g4' := g4
  simp only [inB, Bool.and_eq_true, decide_eq_true_eq] at g4'
  simp -dsimp -implicitDefEqProofs (disch := omega) [go_sem, -List.getD_eq_getElem?_getD, ite_yes]
  refine ACall.of (l23Last_A l node kind hl c _ t hS) ?_
  have lt := lastTo_lt l node kind l.length
  by_cases h0 : lastTo l node kind l.length < 0
  · simp -dsimp -implicitDefEqProofs (disch := omega) [go_sem, -List.getD_eq_getElem?_getD, ite_yes, h0]
    exact fin_flat0 rfl (by simp [nsN, nsB, gok, h0])
  obtain ⟨i, hi⟩ : ∃ i : Nat, lastTo l node kind l.length = (i : Int) := ⟨(lastTo l node kind l.length).toNat, by omega⟩
  rw [hi] at lt h0
  have il : i < l.length := by omega
  have hs := goodS_at g1 il
  have hd : 0 ≤ (l.getD i (0, 0, 0, 0)).1 ∧ (l.getD i (0, 0, 0, 0)).1 ≤ 3650 := by
    have := hs
    simp only [isSmp, inB, Bool.and_eq_true, decide_eq_true_eq] at this
    omega
  have ci := cs i il
  have ci0 := cs0 i il
  have nb : nsB l node kind days = inB (nsD (l.getD i (0, 0, 0, 0)) days) 0 3650 := by
    unfold nsB; rw [if_pos gok, hi, if_neg h0, Int.toNat_natCast]
  have nn : nsN l node kind days = if inB (nsD (l.getD i (0, 0, 0, 0)) days) 0 3650 = true then nsD (l.getD i (0, 0, 0, 0)) days else 0 := by
    unfold nsN; rw [if_pos gok, hi, if_neg h0, Int.toNat_natCast]
  simp -dsimp -implicitDefEqProofs (disch := omega) [go_sem, -List.getD_eq_getElem?_getD, ite_yes, hi, h0, il, ci, ci0]
  refine ACall.of (l23Off_A (l.getD i (0, 0, 0, 0)) hs _) ?_
  by_cases h1 : offN (l.getD i (0, 0, 0, 0)) = 0
  · have e : (l.getD i (0, 0, 0, 0)).1 + days = nsD (l.getD i (0, 0, 0, 0)) days := by unfold nsD; rw [if_pos h1]
    simp -dsimp -implicitDefEqProofs (disch := omega) [go_sem, -List.getD_eq_getElem?_getD, ite_yes, h1, il, ci0, e]
    refine ACall.of (l19Day_A _ _) ?_
    cases g5 : inB (nsD (l.getD i (0, 0, 0, 0)) days) 0 3650
    · simp -dsimp -implicitDefEqProofs (disch := omega) [go_sem, -List.getD_eq_getElem?_getD, ite_yes]
      exact fin_flat0 rfl (by rw [nb, nn, g5]; rfl)
    · simp -dsimp -implicitDefEqProofs (disch := omega) [go_sem, -List.getD_eq_getElem?_getD, ite_yes, il, ci0, e]
      exact fin_flat0 rfl (by rw [nb, nn, g5]; rfl)
  · have e : (l.getD i (0, 0, 0, 0)).1 + 1 = nsD (l.getD i (0, 0, 0, 0)) days := by unfold nsD; rw [if_neg h1]
    simp -dsimp -implicitDefEqProofs (disch := omega) [go_sem, -List.getD_eq_getElem?_getD, ite_yes, h1, il, ci0, e]
    refine ACall.of (l19Day_A _ _) ?_
    cases g5 : inB (nsD (l.getD i (0, 0, 0, 0)) days) 0 3650
    · simp -dsimp -implicitDefEqProofs (disch := omega) [go_sem, -List.getD_eq_getElem?_getD, ite_yes]
      exact fin_flat0 rfl (by rw [nb, nn, g5]; rfl)
    · simp -dsimp -implicitDefEqProofs (disch := omega) [go_sem, -List.getD_eq_getElem?_getD, ite_yes, il, ci0, e]
      exact fin_flat0 rfl (by rw [nb, nn, g5]; rfl)
theorem lawNextSampleDay_A (l : List Sp) (hl0 : l.length ≤ 9223372036854775807) (c0 : Nat) (node : Int) (kind : Int) (days : Int) (H : Heap) (t0 : Nat) (hS0 : Sl spE H t0 l) :
    AFunC Try.prog 4 [.slice (some ⟨t0, 0, none⟩) l.length c0, .int .i64 node, .int .i64 kind, .int .i64 days] H (.bool true) H := by
  refine AFunC.of_body Try.func4 (by kernel_rfl) rfl (by kernel_rfl) (by simp [Try.ntmps4]) ?_
  have ht0 := hS0.lt
  simp -dsimp -implicitDefEqProofs (disch := omega) [go_sem, -List.getD_eq_getElem?_getD, ite_yes, ht0]
  refine ACall.of (szSp_A l.length c0 (by omega) _ (by omega) (by omega) t0 _) ?_
  simp -dsimp -implicitDefEqProofs (disch := omega) [go_sem, -List.getD_eq_getElem?_getD, ite_yes, ht0]
  refine AIf.of (fun h => ?_) (fun h => ?_)
  · simp -dsimp -implicitDefEqProofs (disch := omega) [go_sem, -List.getD_eq_getElem?_getD, ite_yes]
    first | exact fin_flat0 rfl rfl | exact fin_flat rfl rfl
  have hlen0 : l.length ≤ 1048577 := by
    have := szSp_len (by simpa using h)
    omega
  simp -dsimp -implicitDefEqProofs (disch := omega) [go_sem, -List.getD_eq_getElem?_getD, ite_yes, ht0]
  refine ACall.of (toSpS_A l hlen0 c0 _ t0 hS0) ?_
  simp -dsimp -implicitDefEqProofs (disch := omega) [go_sem, -List.getD_eq_getElem?_getD, ite_yes, ht0]
  refine ACall.of (sNext_A l node kind days hlen0 _ _ _ (Sl.of rfl)) ?_
  simp -dsimp -implicitDefEqProofs (disch := omega) [go_sem, -List.getD_eq_getElem?_getD, ite_yes, ht0]
  refine ACall.of (toSpS_A l hlen0 c0 _ t0 hS0.app) ?_
  simp -dsimp -implicitDefEqProofs (disch := omega) [go_sem, -List.getD_eq_getElem?_getD, ite_yes, ht0]
  refine ACall.of (iNext_A l node kind days hlen0 _ _ _ (Sl.nth 1 rfl rfl)) ?_
  simp -dsimp -implicitDefEqProofs (disch := omega) [go_sem, -List.getD_eq_getElem?_getD, ite_yes, ht0]
  refine ACall.of (toSpS_A l hlen0 c0 _ t0 hS0.app) ?_
  simp -dsimp -implicitDefEqProofs (disch := omega) [go_sem, -List.getD_eq_getElem?_getD, ite_yes, ht0]
  refine ACall.of (eqSpS_A l l hlen0 hlen0 _ _ _ _ _ (Sl.nth 1 rfl rfl) (Sl.nth 2 rfl rfl)) ?_
  simp -dsimp -implicitDefEqProofs (disch := omega) [go_sem, -List.getD_eq_getElem?_getD, ite_yes, ht0]
  exact fin_flat rfl rfl
end Go.Proofs.Ytjipihgcbanenaa
