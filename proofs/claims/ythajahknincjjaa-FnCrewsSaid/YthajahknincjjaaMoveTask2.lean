/- MoveTask: both sides (behind EndOf). -/
import Derived.Test.YthajahknincjjaaEndOf
namespace Go.Proofs.Ythajahknincjjaa
open Go.Am
set_option linter.unusedVariables false
set_option linter.unusedSimpArgs false
set_option maxRecDepth 100000
set_option maxHeartbeats 1000000

theorem AsgAt.set {l : List Tk} {crews : Int} {a : List Int} (h : AsgAt l crews a) {i k : Nat} (hk : (k : Int) < crews) : AsgAt l crews (a.set i k) := by
  refine ⟨h.f_good, h.f_crews, by rw [List.length_set]; exact h.f_len, fun j hj => ?_⟩
  rw [List.length_set] at hj
  rw [getD_set_of]
  have := h.f_in j hj
  split <;> omega
/-- the search: what task goes where, and when all end then; st: after the crews before -/
abbrev Mv := Int × Int × Int
def mvIn (l : List Tk) (crews : Int) (a : List Int) (i : Nat) (st : Mv) : Nat → Mv
  | 0 => st
  | k + 1 => if endN l crews (a.set i k) < (mvIn l crews a i st k).2.2 then ((i : Int), (k : Int), endN l crews (a.set i k)) else mvIn l crews a i st k
def mvTo (l : List Tk) (crews : Int) (a : List Int) : Nat → Mv
  | 0 => (-1, 0, endN l crews a)
  | i + 1 => mvIn l crews a i (mvTo l crews a i) crews.toNat
def mvN (l : List Tk) (crews : Int) (a : List Int) : Mv := mvTo l crews a l.length
def mvV (m : Mv) : Value := if m.1 < 0 then .tuple #[.int .i64 0, .int .i64 0, .bool false] else .tuple #[.int .i64 m.1, .int .i64 m.2.1, .bool true]
def mvOk (l : List Tk) (crews : Int) (a : List Int) : Bool := asgOk l crews a
theorem iMove_bad (l : List Tk) (crews : Int) (a : List Int) (hl : l.length ≤ 1048577) (ha : a.length ≤ 1048577) (hg : asgOk l crews a = false) (c c2 : Nat) (H : Heap) (t u : Nat) (hS : Sl tkE H t l) (hU : Sl nmE H u a) :
    AFunC Try.prog 15 [.slice (some ⟨t, 0, none⟩) l.length c, .int .i64 crews, .slice (some ⟨u, 0, none⟩) a.length c2] H (.tuple #[.int .i64 0, .int .i64 0, .bool false]) H := by
  refine AFunC.of_body Try.func15 (by kernel_rfl) rfl (by kernel_rfl) (by simp [Try.ntmps15]) ?_
  have ht := hS.lt
  have hu := hU.lt
  simp -dsimp -implicitDefEqProofs (disch := omega) [go_sem, -List.getD_eq_getElem?_getD, ite_yes]
  refine ACall.of (isAssignment_A l crews a hl ha c c2 _ t u hS hU) ?_
  simp -dsimp -implicitDefEqProofs (disch := omega) [go_sem, -List.getD_eq_getElem?_getD, ite_yes, hg]
  exact fin_flat0 rfl rfl
theorem sMove_bad (l : List Tk) (crews : Int) (a : List Int) (hl : l.length ≤ 1048577) (ha : a.length ≤ 1048577) (hg : asgOk l crews a = false) (c c2 : Nat) (H : Heap) (t u : Nat) (hS : Sl tkE H t l) (hU : Sl nmE H u a) :
    AFunC Try.prog 16 [.slice (some ⟨t, 0, none⟩) l.length c, .int .i64 crews, .slice (some ⟨u, 0, none⟩) a.length c2] H (.tuple #[.int .i64 0, .int .i64 0, .bool false]) H := by
  refine AFunC.of_body Try.func16 (by kernel_rfl) rfl (by kernel_rfl) (by simp [Try.ntmps16]) ?_
  have ht := hS.lt
  have hu := hU.lt
  simp -dsimp -implicitDefEqProofs (disch := omega) [go_sem, -List.getD_eq_getElem?_getD, ite_yes]
  refine ACall.of (l22Assignment_A l crews a hl ha c c2 _ t u hS hU) ?_
  simp -dsimp -implicitDefEqProofs (disch := omega) [go_sem, -List.getD_eq_getElem?_getD, ite_yes, hg]
  exact fin_flat0 rfl rfl
theorem iMove_good (l : List Tk) (crews : Int) (a : List Int) (hl : l.length ≤ 1048577) (ha : a.length ≤ 1048577) (hg : asgOk l crews a = true) (c c2 : Nat) (H : Heap) (t u : Nat) (hS : Sl tkE H t l) (hU : Sl nmE H u a) :
    AFunC Try.prog 15 [.slice (some ⟨t, 0, none⟩) l.length c, .int .i64 crews, .slice (some ⟨u, 0, none⟩) a.length c2] H (mvV (mvN l crews a)) H := by
  refine AFunC.of_body Try.func15 (by kernel_rfl) rfl (by kernel_rfl) (by simp [Try.ntmps15]) ?_
  have ht := hS.lt
  have hu := hU.lt
  have h := AsgAt.of hg
  have h1 := h.f_crews
  have h12 := (goodT_at h.f_good).1
  have hal := h.f_len
  simp -dsimp -implicitDefEqProofs (disch := omega) [go_sem, -List.getD_eq_getElem?_getD, ite_yes]
  refine ACall.of (isAssignment_A l crews a hl ha c c2 _ t u hS hU) ?_
  simp -dsimp -implicitDefEqProofs (disch := omega) [go_sem, -List.getD_eq_getElem?_getD, ite_yes, hg]
  refine ACall.of (endOf_A l crews a h c c2 _ t u hS hU) ?_
  simp -dsimp -implicitDefEqProofs (disch := omega) [go_sem, -List.getD_eq_getElem?_getD, ite_yes]
  refine ALoop.intro (ι := Nat) (fun i => i ≤ l.length) (fun i => [(0, .slice (some ⟨t, 0, none⟩) l.length c), (1, .int .i64 crews), (2, .slice (some ⟨u, 0, none⟩) a.length c2), (9, .int .i64 (mvTo l crews a i).1), (10, .int .i64 (mvTo l crews a i).2.1), (11, .int .i64 (mvTo l crews a i).2.2), (26, .int .i64 l.length), (27, .int .i64 i)]) (fun _ => H) (fun i => l.length - i) 0 (by omega) ?_ ?_
  · exact weakS_same (by simp -dsimp -implicitDefEqProofs (disch := omega) [go_sem, -List.getD_eq_getElem?_getD, ite_yes, ht, hu, mvTo])
  · intro i hi
    by_cases hlt : i < l.length
    · have e1 : mvTo l crews a (i + 1) = mvIn l crews a i (mvTo l crews a i) crews.toNat := rfl
      generalize mvTo l crews a i = st at *
      have hia : i < a.length := by omega
      simp -dsimp -implicitDefEqProofs (disch := omega) [go_sem, -List.getD_eq_getElem?_getD, ite_yes, hlt]
      refine ALoop.intro (ι := Nat) (fun k => k ≤ crews.toNat) (fun k => [(0, .slice (some ⟨t, 0, none⟩) l.length c), (1, .int .i64 crews), (2, .slice (some ⟨u, 0, none⟩) a.length c2), (9, .int .i64 (mvIn l crews a i st k).1), (10, .int .i64 (mvIn l crews a i st k).2.1), (11, .int .i64 (mvIn l crews a i st k).2.2), (12, .int .i64 i), (26, .int .i64 l.length), (27, .int .i64 i), (30, .int .i64 crews), (31, .int .i64 k)]) (fun _ => H) (fun k => crews.toNat - k) 0 (by omega) ?_ ?_
      · exact weakS_same (by simp -dsimp -implicitDefEqProofs (disch := omega) [go_sem, -List.getD_eq_getElem?_getD, ite_yes, ht, hu, mvIn])
      · intro k hk
        by_cases hlk : k < crews.toNat
        · have hkc : (k : Int) < crews := by omega
          have h' := h.set (i := i) hkc
          have eb := endN_bound h'
          have e2 : mvIn l crews a i st (k + 1) = if endN l crews (a.set i k) < (mvIn l crews a i st k).2.2 then ((i : Int), (k : Int), endN l crews (a.set i k)) else mvIn l crews a i st k := rfl
          have hfl : (a.flatMap nmE).length = a.length := by rw [nmE_length]; omega
          have sn := nm_set a k hia
          have sl : (a.set i (k : Int)).length = a.length := List.length_set
          simp -dsimp -implicitDefEqProofs (disch := omega) [go_sem, -List.getD_eq_getElem?_getD, ite_yes, hkc]
          refine ACall.of (copyInts_A a ha c2 _ u hU) ?_
          simp -dsimp -implicitDefEqProofs (disch := omega) [go_sem, -List.getD_eq_getElem?_getD, ite_yes, hia, hfl, sn]
          refine ACall.of (sl ▸ endOf_A l crews (a.set i (k : Int)) h' c a.length _ t H.length hS.app (Sl.of rfl)) ?_
          simp -dsimp -implicitDefEqProofs (disch := omega) [go_sem, -List.getD_eq_getElem?_getD, ite_yes]
          by_cases hc : endN l crews (a.set i k) < (mvIn l crews a i st k).2.2
          · rw [if_pos hc] at e2
            simp -dsimp -implicitDefEqProofs (disch := omega) [go_sem, -List.getD_eq_getElem?_getD, ite_yes, hc]
            exact LoopEnd.of (k + 1) (by omega) (by omega) (weakS_drop (by simp -dsimp -implicitDefEqProofs (disch := omega) [go_sem, -List.getD_eq_getElem?_getD, ite_yes, ht, hu, e2]))
          · rw [if_neg hc] at e2
            simp -dsimp -implicitDefEqProofs (disch := omega) [go_sem, -List.getD_eq_getElem?_getD, ite_yes, hc]
            exact LoopEnd.of (k + 1) (by omega) (by omega) (weakS_drop (by simp -dsimp -implicitDefEqProofs (disch := omega) [go_sem, -List.getD_eq_getElem?_getD, ite_yes, ht, hu, e2]))
        · have hkc : ¬ (k : Int) < crews := by omega
          have hk2 : k = crews.toNat := by omega
          rw [← hk2] at e1
          simp -dsimp -implicitDefEqProofs (disch := omega) [go_sem, -List.getD_eq_getElem?_getD, ite_yes, hkc]
          exact LoopEnd.of (i + 1) (by omega) (by omega) (weakS_same (by simp -dsimp -implicitDefEqProofs (disch := omega) [go_sem, -List.getD_eq_getElem?_getD, ite_yes, ht, hu, e1]))
    · simp -dsimp -implicitDefEqProofs (disch := omega) [go_sem, -List.getD_eq_getElem?_getD, ite_yes, hlt]
      obtain rfl : i = l.length := by omega
      rw [show mvTo l crews a l.length = mvN l crews a from rfl]
      generalize mvN l crews a = m
      refine AIf.of (fun hm => ?_) (fun hm => ?_)
      · simp -dsimp -implicitDefEqProofs (disch := omega) [go_sem, -List.getD_eq_getElem?_getD, ite_yes]
        exact fin_flat0 (by unfold mvV; split <;> rfl) (by simp at hm; simp [mvV, hm])
      · simp -dsimp -implicitDefEqProofs (disch := omega) [go_sem, -List.getD_eq_getElem?_getD, ite_yes]
        exact fin_flat0 (by unfold mvV; split <;> rfl) (by simp at hm; unfold mvV; rw [if_neg (by omega)])
theorem sMove_good (l : List Tk) (crews : Int) (a : List Int) (hl : l.length ≤ 1048577) (ha : a.length ≤ 1048577) (hg : asgOk l crews a = true) (c c2 : Nat) (H : Heap) (t u : Nat) (hS : Sl tkE H t l) (hU : Sl nmE H u a) :
    AFunC Try.prog 16 [.slice (some ⟨t, 0, none⟩) l.length c, .int .i64 crews, .slice (some ⟨u, 0, none⟩) a.length c2] H (mvV (mvN l crews a)) H := by
  refine AFunC.of_body Try.func16 (by kernel_rfl) rfl (by kernel_rfl) (by simp [Try.ntmps16]) ?_
  have ht := hS.lt
  have hu := hU.lt
  have h := AsgAt.of hg
  have h1 := h.f_crews
  have h12 := (goodT_at h.f_good).1
  have hal := h.f_len
  simp -dsimp -implicitDefEqProofs (disch := omega) [go_sem, -List.getD_eq_getElem?_getD, ite_yes]
  refine ACall.of (l22Assignment_A l crews a hl ha c c2 _ t u hS hU) ?_
  simp -dsimp -implicitDefEqProofs (disch := omega) [go_sem, -List.getD_eq_getElem?_getD, ite_yes, hg]
  refine ACall.of (l22End_A l crews a h c c2 _ t u hS hU) ?_
  simp -dsimp -implicitDefEqProofs (disch := omega) [go_sem, -List.getD_eq_getElem?_getD, ite_yes]
  refine ALoop.intro (ι := Nat) (fun i => i ≤ l.length) (fun i => [(0, .slice (some ⟨t, 0, none⟩) l.length c), (1, .int .i64 crews), (2, .slice (some ⟨u, 0, none⟩) a.length c2), (9, .int .i64 (mvTo l crews a i).1), (10, .int .i64 (mvTo l crews a i).2.1), (11, .int .i64 (mvTo l crews a i).2.2), (12, .int .i64 i)]) (fun _ => H) (fun i => l.length - i) 0 (by omega) ?_ ?_
  · exact weakS_same (by simp -dsimp -implicitDefEqProofs (disch := omega) [go_sem, -List.getD_eq_getElem?_getD, ite_yes, ht, hu, mvTo])
  · intro i hi
    by_cases hlt : i < l.length
    · have e1 : mvTo l crews a (i + 1) = mvIn l crews a i (mvTo l crews a i) crews.toNat := rfl
      generalize mvTo l crews a i = st at *
      have hia : i < a.length := by omega
      simp -dsimp -implicitDefEqProofs (disch := omega) [go_sem, -List.getD_eq_getElem?_getD, ite_yes, hlt]
      refine ALoop.intro (ι := Nat) (fun k => k ≤ crews.toNat) (fun k => [(0, .slice (some ⟨t, 0, none⟩) l.length c), (1, .int .i64 crews), (2, .slice (some ⟨u, 0, none⟩) a.length c2), (9, .int .i64 (mvIn l crews a i st k).1), (10, .int .i64 (mvIn l crews a i st k).2.1), (11, .int .i64 (mvIn l crews a i st k).2.2), (12, .int .i64 i), (13, .int .i64 k)]) (fun _ => H) (fun k => crews.toNat - k) 0 (by omega) ?_ ?_
      · exact weakS_same (by simp -dsimp -implicitDefEqProofs (disch := omega) [go_sem, -List.getD_eq_getElem?_getD, ite_yes, ht, hu, mvIn])
      · intro k hk
        by_cases hlk : k < crews.toNat
        · have hkc : (k : Int) < crews := by omega
          have h' := h.set (i := i) hkc
          have eb := endN_bound h'
          have e2 : mvIn l crews a i st (k + 1) = if endN l crews (a.set i k) < (mvIn l crews a i st k).2.2 then ((i : Int), (k : Int), endN l crews (a.set i k)) else mvIn l crews a i st k := rfl
          have hfl : (a.flatMap nmE).length = a.length := by rw [nmE_length]; omega
          have sn := nm_set a k hia
          have sl : (a.set i (k : Int)).length = a.length := List.length_set
          simp -dsimp -implicitDefEqProofs (disch := omega) [go_sem, -List.getD_eq_getElem?_getD, ite_yes, hkc]
          refine ACall.of (l1Own_A a ha c2 _ u hU) ?_
          simp -dsimp -implicitDefEqProofs (disch := omega) [go_sem, -List.getD_eq_getElem?_getD, ite_yes, hia, hfl, sn]
          refine ACall.of (sl ▸ l22End_A l crews (a.set i (k : Int)) h' c a.length _ t H.length hS.app (Sl.of rfl)) ?_
          simp -dsimp -implicitDefEqProofs (disch := omega) [go_sem, -List.getD_eq_getElem?_getD, ite_yes]
          by_cases hc : endN l crews (a.set i k) < (mvIn l crews a i st k).2.2
          · rw [if_pos hc] at e2
            simp -dsimp -implicitDefEqProofs (disch := omega) [go_sem, -List.getD_eq_getElem?_getD, ite_yes, hc]
            exact LoopEnd.of (k + 1) (by omega) (by omega) (weakS_drop (by simp -dsimp -implicitDefEqProofs (disch := omega) [go_sem, -List.getD_eq_getElem?_getD, ite_yes, ht, hu, e2]))
          · rw [if_neg hc] at e2
            simp -dsimp -implicitDefEqProofs (disch := omega) [go_sem, -List.getD_eq_getElem?_getD, ite_yes, hc]
            exact LoopEnd.of (k + 1) (by omega) (by omega) (weakS_drop (by simp -dsimp -implicitDefEqProofs (disch := omega) [go_sem, -List.getD_eq_getElem?_getD, ite_yes, ht, hu, e2]))
        · have hkc : ¬ (k : Int) < crews := by omega
          have hk2 : k = crews.toNat := by omega
          rw [← hk2] at e1
          simp -dsimp -implicitDefEqProofs (disch := omega) [go_sem, -List.getD_eq_getElem?_getD, ite_yes, hkc]
          exact LoopEnd.of (i + 1) (by omega) (by omega) (weakS_same (by simp -dsimp -implicitDefEqProofs (disch := omega) [go_sem, -List.getD_eq_getElem?_getD, ite_yes, ht, hu, e1]))
    · simp -dsimp -implicitDefEqProofs (disch := omega) [go_sem, -List.getD_eq_getElem?_getD, ite_yes, hlt]
      obtain rfl : i = l.length := by omega
      rw [show mvTo l crews a l.length = mvN l crews a from rfl]
      generalize mvN l crews a = m
      refine AIf.of (fun hm => ?_) (fun hm => ?_)
      · simp -dsimp -implicitDefEqProofs (disch := omega) [go_sem, -List.getD_eq_getElem?_getD, ite_yes]
        exact fin_flat0 (by unfold mvV; split <;> rfl) (by simp at hm; simp [mvV, hm])
      · simp -dsimp -implicitDefEqProofs (disch := omega) [go_sem, -List.getD_eq_getElem?_getD, ite_yes]
        exact fin_flat0 (by unfold mvV; split <;> rfl) (by simp at hm; unfold mvV; rw [if_neg (by omega)])
theorem mvV_flat (m : Mv) : ∃ x y : Int, ∃ b : Bool, mvV m = .tuple #[.int .i64 x, .int .i64 y, .bool b] := by
  unfold mvV
  split
  · exact ⟨0, 0, false, rfl⟩
  · exact ⟨_, _, true, rfl⟩
end Go.Proofs.Ythajahknincjjaa
