/- MoveTask: both sides, and the law. -/
import Derived.Test.YtihnhidddgdhdaaAssign
namespace Go.Proofs.Ytihnhidddgdhdaa
open Go.Am
set_option linter.unusedVariables false
set_option linter.unusedSimpArgs false
set_option maxRecDepth 100000
set_option maxHeartbeats 1000000

/-- the end of an assignment -/
def endN (l : List Tk) (crews : Int) (a : List Int) : Int := mxTo (loadTo l crews a a.length) crews.toNat
theorem mxTo_bound {s : List Int} {B : Int} (h : ∀ q, 0 ≤ s.getD q 0 ∧ s.getD q 0 ≤ B) (hB : 0 ≤ B) : ∀ k, 0 ≤ mxTo s k ∧ mxTo s k ≤ B
  | 0 => by simp [mxTo, hB]
  | k + 1 => by
    have := mxTo_bound h hB k
    have := h k
    simp only [mxTo]; omega
theorem endN_bound {l : List Tk} {crews : Int} {a : List Int} (h : AsgAt l crews a) : 0 ≤ endN l crews a ∧ endN l crews a ≤ 3360 := by
  have h12 := (goodT_at h.f_good).1
  have hl := h.f_len
  refine mxTo_bound (B := 3360) (fun q => ?_) (by omega) _
  have := loadTo_bound h a.length (by omega) q
  omega
theorem endOf_A (l : List Tk) (crews : Int) (a : List Int) (h : AsgAt l crews a) (c c2 : Nat) (H : Heap) (t u : Nat) (hS : Sl tkE H t l) (hU : Sl nmE H u a) :
    AFunC Try.prog 47 [.slice (some ⟨t, 0, none⟩) l.length c, .int .i64 crews, .slice (some ⟨u, 0, none⟩) a.length c2] H (.int .i64 (endN l crews a)) H := by
  refine AFunC.of_body Try.func47 (by kernel_rfl) rfl (by kernel_rfl) (by simp [Try.ntmps47]) ?_
  have ht := hS.lt
  have hu := hU.lt
  have h1 := h.f_crews
  have ll := loadTo_length l crews a a.length
  have hb := loadTo_bound h a.length (by have := h.f_len; omega)
  simp -dsimp -implicitDefEqProofs (disch := omega) [go_sem, -List.getD_eq_getElem?_getD, ite_yes]
  refine ACall.of (loadsOf_A l crews a h c c2 _ t u hS hU) ?_
  simp -dsimp -implicitDefEqProofs (disch := omega) [go_sem, -List.getD_eq_getElem?_getD, ite_yes]
  refine ACall.of (maxNm_A (loadTo l crews a a.length) (by omega) (fun i _ => (hb i).1) (by omega) _ _ _ (Sl.of rfl)) ?_
  simp -dsimp -implicitDefEqProofs (disch := omega) [go_sem, -List.getD_eq_getElem?_getD, ite_yes]
  exact fin_flat rfl (by unfold endN; rw [← ll])
theorem l22End_A (l : List Tk) (crews : Int) (a : List Int) (h : AsgAt l crews a) (c c2 : Nat) (H : Heap) (t u : Nat) (hS : Sl tkE H t l) (hU : Sl nmE H u a) :
    AFunC Try.prog 48 [.slice (some ⟨t, 0, none⟩) l.length c, .int .i64 crews, .slice (some ⟨u, 0, none⟩) a.length c2] H (.int .i64 (endN l crews a)) H := by
  refine AFunC.of_body Try.func48 (by kernel_rfl) rfl (by kernel_rfl) (by simp [Try.ntmps48]) ?_
  have ht := hS.lt
  have hu := hU.lt
  have h1 := h.f_crews
  have ll := loadTo_length l crews a a.length
  simp -dsimp -implicitDefEqProofs (disch := omega) [go_sem, -List.getD_eq_getElem?_getD, ite_yes]
  refine ACall.of (l22Loads_A l crews a h c c2 _ t u hS hU) ?_
  unfold endN
  generalize loadTo l crews a a.length = s at *
  have hfl : (s.flatMap nmE).length = s.length := by rw [nmE_length]; omega
  simp -dsimp -implicitDefEqProofs (disch := omega) [go_sem, -List.getD_eq_getElem?_getD, ite_yes]
  refine ALoop.intro (ι := Nat) (fun k => k ≤ s.length) (fun k => [(7, .int .i64 (mxTo s k)), (8, .slice (some ⟨H.length, 0, none⟩) s.length s.length), (9, .int .i64 k)]) (fun _ => H ++ [some ⟨s.flatMap nmE, true, 3, 1⟩]) (fun k => s.length - k) 0 (by omega) ?_ ?_
  · refine weakS_mk [some 0] rfl ?_ (by simp -dsimp -implicitDefEqProofs (disch := omega) [go_sem, -List.getD_eq_getElem?_getD, ite_yes, ht, mxTo])
    simp -dsimp -implicitDefEqProofs (disch := omega) [go_sem, -List.getD_eq_getElem?_getD, ite_yes]
    exact .inl ⟨rfl, nmE_flat _⟩
  · intro k hk
    by_cases hlt : k < s.length
    · have c1 := nm_cell s hlt
      simp -dsimp -implicitDefEqProofs (disch := omega) [go_sem, -List.getD_eq_getElem?_getD, ite_yes, hlt, hfl, c1]
      refine ACall.of (l1Most_A _ _ _) ?_
      simp -dsimp -implicitDefEqProofs (disch := omega) [go_sem, -List.getD_eq_getElem?_getD, ite_yes]
      refine LoopEnd.of (k + 1) (by omega) (by omega) (weakS_mk [some 0] rfl ?_ (by simp -dsimp -implicitDefEqProofs (disch := omega) [go_sem, -List.getD_eq_getElem?_getD, ite_yes, ht, mxTo]))
      simp -dsimp -implicitDefEqProofs (disch := omega) [go_sem, -List.getD_eq_getElem?_getD, ite_yes]
      exact .inl ⟨rfl, nmE_flat _⟩
    · simp -dsimp -implicitDefEqProofs (disch := omega) [go_sem, -List.getD_eq_getElem?_getD, ite_yes, hlt]
      have : k = crews.toNat := by omega
      subst this
      exact fin_flat rfl rfl
theorem AsgAt.set {l : List Tk} {crews : Int} {a : List Int} (h : AsgAt l crews a) {i k : Nat} (hk : (k : Int) < crews) : AsgAt l crews (a.set i k) := by
  refine ⟨h.f_good, h.f_crews, by rw [List.length_set]; exact h.f_len, fun j hj => ?_⟩
  rw [List.length_set] at hj
  rw [getD_set_of]
  have := h.f_in j hj
  split <;> omega
/-- the search: what task goes where, and when all end then; st: after the crews before -/
abbrev Mv := Int × Int × Int
def mvIn (l : List Tk) (crews : Int) (a : List Int) (i : Nat) (st : Mv) : Nat → Mv
  | 0 => st
  | k + 1 => if endN l crews (a.set i k) < (mvIn l crews a i st k).2.2 then ((i : Int), (k : Int), endN l crews (a.set i k)) else mvIn l crews a i st k
def mvTo (l : List Tk) (crews : Int) (a : List Int) : Nat → Mv
  | 0 => (-1, 0, endN l crews a)
  | i + 1 => mvIn l crews a i (mvTo l crews a i) crews.toNat
def mvN (l : List Tk) (crews : Int) (a : List Int) : Mv := mvTo l crews a l.length
def mvV (m : Mv) : Value := if m.1 < 0 then .tuple #[.int .i64 0, .int .i64 0, .bool false] else .tuple #[.int .i64 m.1, .int .i64 m.2.1, .bool true]
def mvOk (l : List Tk) (crews : Int) (a : List Int) : Bool := asgOk l crews a
theorem copyInts_A (a : List Int) (ha : a.length ≤ 1048577) (c2 : Nat) (H : Heap) (u : Nat) (hU : Sl nmE H u a) :
    AFunC Try.prog 46 [.slice (some ⟨u, 0, none⟩) a.length c2] H (.slice (some ⟨H.length, 0, none⟩) a.length a.length) (H ++ [some ⟨a.flatMap nmE, true, 3, 1⟩]) := by
  refine AFunC.of_body Try.func46 (by kernel_rfl) rfl (by kernel_rfl) (by simp [Try.ntmps46]) ?_
  have hu := hU.lt
  have al := hU.all (s := 1) (fun _ => rfl)
  rw [Nat.mul_one] at al
  simp -dsimp -implicitDefEqProofs (disch := omega) [go_sem, -List.getD_eq_getElem?_getD, ite_yes, hu, al]
  refine ⟨by omega, fin_list [some 1] rfl ?_ (by simp -dsimp -implicitDefEqProofs (disch := omega) [go_sem, -List.getD_eq_getElem?_getD, ite_yes, hu])⟩
  simp -dsimp -implicitDefEqProofs (disch := omega) [go_sem, -List.getD_eq_getElem?_getD, ite_yes]
  exact .inl ⟨rfl, nmE_flat _⟩
theorem l1Own_A (a : List Int) (ha : a.length ≤ 1048577) (c2 : Nat) (H : Heap) (u : Nat) (hU : Sl nmE H u a) :
    AFunC Try.prog 49 [.slice (some ⟨u, 0, none⟩) a.length c2] H (.slice (some ⟨H.length, 0, none⟩) a.length a.length) (H ++ [some ⟨a.flatMap nmE, true, 3, 1⟩]) := by
  refine AFunC.of_body Try.func49 (by kernel_rfl) rfl (by kernel_rfl) (by simp [Try.ntmps49]) ?_
  have hu := hU.lt
  have al := hU.all (s := 1) (fun _ => rfl)
  rw [Nat.mul_one] at al
  simp -dsimp -implicitDefEqProofs (disch := omega) [go_sem, -List.getD_eq_getElem?_getD, ite_yes, hu, al]
  refine ⟨by omega, fin_list [some 1] rfl ?_ (by simp -dsimp -implicitDefEqProofs (disch := omega) [go_sem, -List.getD_eq_getElem?_getD, ite_yes, hu])⟩
  simp -dsimp -implicitDefEqProofs (disch := omega) [go_sem, -List.getD_eq_getElem?_getD, ite_yes]
  exact .inl ⟨rfl, nmE_flat _⟩
theorem iMove_bad (l : List Tk) (crews : Int) (a : List Int) (hl : l.length ≤ 1048577) (ha : a.length ≤ 1048577) (hg : asgOk l crews a = false) (c c2 : Nat) (H : Heap) (t u : Nat) (hS : Sl tkE H t l) (hU : Sl nmE H u a) :
    AFunC Try.prog 29 [.slice (some ⟨t, 0, none⟩) l.length c, .int .i64 crews, .slice (some ⟨u, 0, none⟩) a.length c2] H (.tuple #[.int .i64 0, .int .i64 0, .bool false]) H := by
  refine AFunC.of_body Try.func29 (by kernel_rfl) rfl (by kernel_rfl) (by simp [Try.ntmps29]) ?_
  have ht := hS.lt
  have hu := hU.lt
  simp -dsimp -implicitDefEqProofs (disch := omega) [go_sem, -List.getD_eq_getElem?_getD, ite_yes]
  refine ACall.of (isAssignment_A l crews a hl ha c c2 _ t u hS hU) ?_
  simp -dsimp -implicitDefEqProofs (disch := omega) [go_sem, -List.getD_eq_getElem?_getD, ite_yes, hg]
  exact fin_flat0 rfl rfl
theorem sMove_bad (l : List Tk) (crews : Int) (a : List Int) (hl : l.length ≤ 1048577) (ha : a.length ≤ 1048577) (hg : asgOk l crews a = false) (c c2 : Nat) (H : Heap) (t u : Nat) (hS : Sl tkE H t l) (hU : Sl nmE H u a) :
    AFunC Try.prog 28 [.slice (some ⟨t, 0, none⟩) l.length c, .int .i64 crews, .slice (some ⟨u, 0, none⟩) a.length c2] H (.tuple #[.int .i64 0, .int .i64 0, .bool false]) H := by
  refine AFunC.of_body Try.func28 (by kernel_rfl) rfl (by kernel_rfl) (by simp [Try.ntmps28]) ?_
  have ht := hS.lt
  have hu := hU.lt
  simp -dsimp -implicitDefEqProofs (disch := omega) [go_sem, -List.getD_eq_getElem?_getD, ite_yes]
  refine ACall.of (l22Assignment_A l crews a hl ha c c2 _ t u hS hU) ?_
  simp -dsimp -implicitDefEqProofs (disch := omega) [go_sem, -List.getD_eq_getElem?_getD, ite_yes, hg]
  exact fin_flat0 rfl rfl
theorem iMove_good (l : List Tk) (crews : Int) (a : List Int) (hl : l.length ≤ 1048577) (ha : a.length ≤ 1048577) (hg : asgOk l crews a = true) (c c2 : Nat) (H : Heap) (t u : Nat) (hS : Sl tkE H t l) (hU : Sl nmE H u a) :
    AFunC Try.prog 29 [.slice (some ⟨t, 0, none⟩) l.length c, .int .i64 crews, .slice (some ⟨u, 0, none⟩) a.length c2] H (mvV (mvN l crews a)) H := by
  refine AFunC.of_body Try.func29 (by kernel_rfl) rfl (by kernel_rfl) (by simp [Try.ntmps29]) ?_
  have ht := hS.lt
  have hu := hU.lt
  have h := AsgAt.of hg
  have h1 := h.f_crews
  have h12 := (goodT_at h.f_good).1
  have hal := h.f_len
  simp -dsimp -implicitDefEqProofs (disch := omega) [go_sem, -List.getD_eq_getElem?_getD, ite_yes]
  refine ACall.of (isAssignment_A l crews a hl ha c c2 _ t u hS hU) ?_
  simp -dsimp -implicitDefEqProofs (disch := omega) [go_sem, -List.getD_eq_getElem?_getD, ite_yes, hg]
  refine ACall.of (endOf_A l crews a h c c2 _ t u hS hU) ?_
  simp -dsimp -implicitDefEqProofs (disch := omega) [go_sem, -List.getD_eq_getElem?_getD, ite_yes]
  refine ALoop.intro (ι := Nat) (fun i => i ≤ l.length) (fun i => [(0, .slice (some ⟨t, 0, none⟩) l.length c), (1, .int .i64 crews), (2, .slice (some ⟨u, 0, none⟩) a.length c2), (9, .int .i64 (mvTo l crews a i).1), (10, .int .i64 (mvTo l crews a i).2.1), (11, .int .i64 (mvTo l crews a i).2.2), (26, .int .i64 l.length), (27, .int .i64 i)]) (fun _ => H) (fun i => l.length - i) 0 (by omega) ?_ ?_
  · exact weakS_same (by simp -dsimp -implicitDefEqProofs (disch := omega) [go_sem, -List.getD_eq_getElem?_getD, ite_yes, ht, hu, mvTo])
  · intro i hi
    by_cases hlt : i < l.length
    · have e1 : mvTo l crews a (i + 1) = mvIn l crews a i (mvTo l crews a i) crews.toNat := rfl
      generalize mvTo l crews a i = st at *
      have hia : i < a.length := by omega
      simp -dsimp -implicitDefEqProofs (disch := omega) [go_sem, -List.getD_eq_getElem?_getD, ite_yes, hlt]
      refine ALoop.intro (ι := Nat) (fun k => k ≤ crews.toNat) (fun k => [(0, .slice (some ⟨t, 0, none⟩) l.length c), (1, .int .i64 crews), (2, .slice (some ⟨u, 0, none⟩) a.length c2), (9, .int .i64 (mvIn l crews a i st k).1), (10, .int .i64 (mvIn l crews a i st k).2.1), (11, .int .i64 (mvIn l crews a i st k).2.2), (12, .int .i64 i), (26, .int .i64 l.length), (27, .int .i64 i), (30, .int .i64 crews), (31, .int .i64 k)]) (fun _ => H) (fun k => crews.toNat - k) 0 (by omega) ?_ ?_
      · exact weakS_same (by simp -dsimp -implicitDefEqProofs (disch := omega) [go_sem, -List.getD_eq_getElem?_getD, ite_yes, ht, hu, mvIn])
      · intro k hk
        by_cases hlk : k < crews.toNat
        · have hkc : (k : Int) < crews := by omega
          have h' := h.set (i := i) hkc
          have eb := endN_bound h'
          have e2 : mvIn l crews a i st (k + 1) = if endN l crews (a.set i k) < (mvIn l crews a i st k).2.2 then ((i : Int), (k : Int), endN l crews (a.set i k)) else mvIn l crews a i st k := rfl
          have hfl : (a.flatMap nmE).length = a.length := by rw [nmE_length]; omega
          have sn := nm_set a k hia
          have sl : (a.set i (k : Int)).length = a.length := List.length_set
          simp -dsimp -implicitDefEqProofs (disch := omega) [go_sem, -List.getD_eq_getElem?_getD, ite_yes, hkc]
          refine ACall.of (copyInts_A a ha c2 _ u hU) ?_
          simp -dsimp -implicitDefEqProofs (disch := omega) [go_sem, -List.getD_eq_getElem?_getD, ite_yes, hia, hfl, sn]
          refine ACall.of (sl ▸ endOf_A l crews (a.set i (k : Int)) h' c a.length _ t H.length hS.app (Sl.of rfl)) ?_
          simp -dsimp -implicitDefEqProofs (disch := omega) [go_sem, -List.getD_eq_getElem?_getD, ite_yes]
          by_cases hc : endN l crews (a.set i k) < (mvIn l crews a i st k).2.2
          · rw [if_pos hc] at e2
            simp -dsimp -implicitDefEqProofs (disch := omega) [go_sem, -List.getD_eq_getElem?_getD, ite_yes, hc]
            exact LoopEnd.of (k + 1) (by omega) (by omega) (weakS_drop (by simp -dsimp -implicitDefEqProofs (disch := omega) [go_sem, -List.getD_eq_getElem?_getD, ite_yes, ht, hu, e2]))
          · rw [if_neg hc] at e2
            simp -dsimp -implicitDefEqProofs (disch := omega) [go_sem, -List.getD_eq_getElem?_getD, ite_yes, hc]
            exact LoopEnd.of (k + 1) (by omega) (by omega) (weakS_drop (by simp -dsimp -implicitDefEqProofs (disch := omega) [go_sem, -List.getD_eq_getElem?_getD, ite_yes, ht, hu, e2]))
        · have hkc : ¬ (k : Int) < crews := by omega
          have hk2 : k = crews.toNat := by omega
          rw [← hk2] at e1
          simp -dsimp -implicitDefEqProofs (disch := omega) [go_sem, -List.getD_eq_getElem?_getD, ite_yes, hkc]
          exact LoopEnd.of (i + 1) (by omega) (by omega) (weakS_same (by simp -dsimp -implicitDefEqProofs (disch := omega) [go_sem, -List.getD_eq_getElem?_getD, ite_yes, ht, hu, e1]))
    · simp -dsimp -implicitDefEqProofs (disch := omega) [go_sem, -List.getD_eq_getElem?_getD, ite_yes, hlt]
      obtain rfl : i = l.length := by omega
      rw [show mvTo l crews a l.length = mvN l crews a from rfl]
      generalize mvN l crews a = m
      refine AIf.of (fun hm => ?_) (fun hm => ?_)
      · simp -dsimp -implicitDefEqProofs (disch := omega) [go_sem, -List.getD_eq_getElem?_getD, ite_yes]
        exact fin_flat0 (by unfold mvV; split <;> rfl) (by simp at hm; simp [mvV, hm])
      · simp -dsimp -implicitDefEqProofs (disch := omega) [go_sem, -List.getD_eq_getElem?_getD, ite_yes]
        exact fin_flat0 (by unfold mvV; split <;> rfl) (by simp at hm; unfold mvV; rw [if_neg (by omega)])
theorem sMove_good (l : List Tk) (crews : Int) (a : List Int) (hl : l.length ≤ 1048577) (ha : a.length ≤ 1048577) (hg : asgOk l crews a = true) (c c2 : Nat) (H : Heap) (t u : Nat) (hS : Sl tkE H t l) (hU : Sl nmE H u a) :
    AFunC Try.prog 28 [.slice (some ⟨t, 0, none⟩) l.length c, .int .i64 crews, .slice (some ⟨u, 0, none⟩) a.length c2] H (mvV (mvN l crews a)) H := by
  refine AFunC.of_body Try.func28 (by kernel_rfl) rfl (by kernel_rfl) (by simp [Try.ntmps28]) ?_
  have ht := hS.lt
  have hu := hU.lt
  have h := AsgAt.of hg
  have h1 := h.f_crews
  have h12 := (goodT_at h.f_good).1
  have hal := h.f_len
  simp -dsimp -implicitDefEqProofs (disch := omega) [go_sem, -List.getD_eq_getElem?_getD, ite_yes]
  refine ACall.of (l22Assignment_A l crews a hl ha c c2 _ t u hS hU) ?_
  simp -dsimp -implicitDefEqProofs (disch := omega) [go_sem, -List.getD_eq_getElem?_getD, ite_yes, hg]
  refine ACall.of (l22End_A l crews a h c c2 _ t u hS hU) ?_
  simp -dsimp -implicitDefEqProofs (disch := omega) [go_sem, -List.getD_eq_getElem?_getD, ite_yes]
  refine ALoop.intro (ι := Nat) (fun i => i ≤ l.length) (fun i => [(0, .slice (some ⟨t, 0, none⟩) l.length c), (1, .int .i64 crews), (2, .slice (some ⟨u, 0, none⟩) a.length c2), (9, .int .i64 (mvTo l crews a i).1), (10, .int .i64 (mvTo l crews a i).2.1), (11, .int .i64 (mvTo l crews a i).2.2), (12, .int .i64 i)]) (fun _ => H) (fun i => l.length - i) 0 (by omega) ?_ ?_
  · exact weakS_same (by simp -dsimp -implicitDefEqProofs (disch := omega) [go_sem, -List.getD_eq_getElem?_getD, ite_yes, ht, hu, mvTo])
  · intro i hi
    by_cases hlt : i < l.length
    · have e1 : mvTo l crews a (i + 1) = mvIn l crews a i (mvTo l crews a i) crews.toNat := rfl
      generalize mvTo l crews a i = st at *
      have hia : i < a.length := by omega
      simp -dsimp -implicitDefEqProofs (disch := omega) [go_sem, -List.getD_eq_getElem?_getD, ite_yes, hlt]
      refine ALoop.intro (ι := Nat) (fun k => k ≤ crews.toNat) (fun k => [(0, .slice (some ⟨t, 0, none⟩) l.length c), (1, .int .i64 crews), (2, .slice (some ⟨u, 0, none⟩) a.length c2), (9, .int .i64 (mvIn l crews a i st k).1), (10, .int .i64 (mvIn l crews a i st k).2.1), (11, .int .i64 (mvIn l crews a i st k).2.2), (12, .int .i64 i), (13, .int .i64 k)]) (fun _ => H) (fun k => crews.toNat - k) 0 (by omega) ?_ ?_
      · exact weakS_same (by simp -dsimp -implicitDefEqProofs (disch := omega) [go_sem, -List.getD_eq_getElem?_getD, ite_yes, ht, hu, mvIn])
      · intro k hk
        by_cases hlk : k < crews.toNat
        · have hkc : (k : Int) < crews := by omega
          have h' := h.set (i := i) hkc
          have eb := endN_bound h'
          have e2 : mvIn l crews a i st (k + 1) = if endN l crews (a.set i k) < (mvIn l crews a i st k).2.2 then ((i : Int), (k : Int), endN l crews (a.set i k)) else mvIn l crews a i st k := rfl
          have hfl : (a.flatMap nmE).length = a.length := by rw [nmE_length]; omega
          have sn := nm_set a k hia
          have sl : (a.set i (k : Int)).length = a.length := List.length_set
          simp -dsimp -implicitDefEqProofs (disch := omega) [go_sem, -List.getD_eq_getElem?_getD, ite_yes, hkc]
          refine ACall.of (l1Own_A a ha c2 _ u hU) ?_
          simp -dsimp -implicitDefEqProofs (disch := omega) [go_sem, -List.getD_eq_getElem?_getD, ite_yes, hia, hfl, sn]
          refine ACall.of (sl ▸ l22End_A l crews (a.set i (k : Int)) h' c a.length _ t H.length hS.app (Sl.of rfl)) ?_
          simp -dsimp -implicitDefEqProofs (disch := omega) [go_sem, -List.getD_eq_getElem?_getD, ite_yes]
          by_cases hc : endN l crews (a.set i k) < (mvIn l crews a i st k).2.2
          · rw [if_pos hc] at e2
            simp -dsimp -implicitDefEqProofs (disch := omega) [go_sem, -List.getD_eq_getElem?_getD, ite_yes, hc]
            exact LoopEnd.of (k + 1) (by omega) (by omega) (weakS_drop (by simp -dsimp -implicitDefEqProofs (disch := omega) [go_sem, -List.getD_eq_getElem?_getD, ite_yes, ht, hu, e2]))
          · rw [if_neg hc] at e2
            simp -dsimp -implicitDefEqProofs (disch := omega) [go_sem, -List.getD_eq_getElem?_getD, ite_yes, hc]
            exact LoopEnd.of (k + 1) (by omega) (by omega) (weakS_drop (by simp -dsimp -implicitDefEqProofs (disch := omega) [go_sem, -List.getD_eq_getElem?_getD, ite_yes, ht, hu, e2]))
        · have hkc : ¬ (k : Int) < crews := by omega
          have hk2 : k = crews.toNat := by omega
          rw [← hk2] at e1
          simp -dsimp -implicitDefEqProofs (disch := omega) [go_sem, -List.getD_eq_getElem?_getD, ite_yes, hkc]
          exact LoopEnd.of (i + 1) (by omega) (by omega) (weakS_same (by simp -dsimp -implicitDefEqProofs (disch := omega) [go_sem, -List.getD_eq_getElem?_getD, ite_yes, ht, hu, e1]))
    · simp -dsimp -implicitDefEqProofs (disch := omega) [go_sem, -List.getD_eq_getElem?_getD, ite_yes, hlt]
      obtain rfl : i = l.length := by omega
      rw [show mvTo l crews a l.length = mvN l crews a from rfl]
      generalize mvN l crews a = m
      refine AIf.of (fun hm => ?_) (fun hm => ?_)
      · simp -dsimp -implicitDefEqProofs (disch := omega) [go_sem, -List.getD_eq_getElem?_getD, ite_yes]
        exact fin_flat0 (by unfold mvV; split <;> rfl) (by simp at hm; simp [mvV, hm])
      · simp -dsimp -implicitDefEqProofs (disch := omega) [go_sem, -List.getD_eq_getElem?_getD, ite_yes]
        exact fin_flat0 (by unfold mvV; split <;> rfl) (by simp at hm; unfold mvV; rw [if_neg (by omega)])
theorem mvV_flat (m : Mv) : ∃ x y : Int, ∃ b : Bool, mvV m = .tuple #[.int .i64 x, .int .i64 y, .bool b] := by
  unfold mvV
  split
  · exact ⟨0, 0, false, rfl⟩
  · exact ⟨_, _, true, rfl⟩
theorem lawMoveTask_A (l : List Tk) (hl0 : l.length ≤ 9223372036854775807) (c0 : Nat) (crews : Int) (a : List Nm) (hl1 : a.length ≤ 9223372036854775807) (c1 : Nat) (H : Heap) (t0 : Nat) (hS0 : Sl tkE H t0 l) (t1 : Nat) (hS1 : Sl nmE H t1 a) :
    AFunC Try.prog 8 [.slice (some ⟨t0, 0, none⟩) l.length c0, .int .i64 crews, .slice (some ⟨t1, 0, none⟩) a.length c1] H (.bool true) H := by
  refine AFunC.of_body Try.func8 (by kernel_rfl) rfl (by kernel_rfl) (by simp [Try.ntmps8]) ?_
  have ht0 := hS0.lt
  have ht1 := hS1.lt
  simp -dsimp -implicitDefEqProofs (disch := omega) [go_sem, -List.getD_eq_getElem?_getD, ite_yes, ht0, ht1]
  refine AIf.of (fun h => ?_) (fun h => ?_)
  · simp -dsimp -implicitDefEqProofs (disch := omega) [go_sem, -List.getD_eq_getElem?_getD, ite_yes]
    first | exact fin_flat0 rfl rfl | exact fin_flat rfl rfl
  have hlen1 : a.length ≤ 1048577 := by
    have := of_decide_eq_false h
    omega
  simp -dsimp -implicitDefEqProofs (disch := omega) [go_sem, -List.getD_eq_getElem?_getD, ite_yes, ht0, ht1]
  refine ACall.of (szTk_A l.length c0 (by omega) _ (by omega) (by omega) t0 _) ?_
  simp -dsimp -implicitDefEqProofs (disch := omega) [go_sem, -List.getD_eq_getElem?_getD, ite_yes, ht0, ht1]
  refine AIf.of (fun h => ?_) (fun h => ?_)
  · simp -dsimp -implicitDefEqProofs (disch := omega) [go_sem, -List.getD_eq_getElem?_getD, ite_yes]
    first | exact fin_flat0 rfl rfl | exact fin_flat rfl rfl
  have hlen0 : l.length ≤ 1048577 := by
    have := szTk_len (by simpa using h)
    omega
  simp -dsimp -implicitDefEqProofs (disch := omega) [go_sem, -List.getD_eq_getElem?_getD, ite_yes, ht0, ht1]
  rcases Bool.eq_false_or_eq_true (asgOk l crews a) with hg | hg
  · obtain ⟨x, y, b, ev⟩ := mvV_flat (mvN l crews a)
    refine ACall.of (toTkS_A l hlen0 c0 _ t0 hS0) ?_
    simp -dsimp -implicitDefEqProofs (disch := omega) [go_sem, -List.getD_eq_getElem?_getD, ite_yes, ht0, ht1]
    refine ACall.of (toNmS_A a hlen1 c1 _ t1 hS1.app) ?_
    simp -dsimp -implicitDefEqProofs (disch := omega) [go_sem, -List.getD_eq_getElem?_getD, ite_yes, ht0, ht1]
    refine ACall.of (ev ▸ sMove_good l crews a hlen0 hlen1 hg _ _ _ _ _ (Sl.of rfl) (Sl.nth 1 rfl rfl)) ?_
    simp -dsimp -implicitDefEqProofs (disch := omega) [go_sem, -List.getD_eq_getElem?_getD, ite_yes, ht0, ht1]
    refine ACall.of (toTkS_A l hlen0 c0 _ t0 hS0.app) ?_
    simp -dsimp -implicitDefEqProofs (disch := omega) [go_sem, -List.getD_eq_getElem?_getD, ite_yes, ht0, ht1]
    refine ACall.of (toNmS_A a hlen1 c1 _ t1 hS1.app) ?_
    simp -dsimp -implicitDefEqProofs (disch := omega) [go_sem, -List.getD_eq_getElem?_getD, ite_yes, ht0, ht1]
    refine ACall.of (ev ▸ iMove_good l crews a hlen0 hlen1 hg _ _ _ _ _ (Sl.nth 2 rfl rfl) (Sl.nth 3 rfl rfl)) ?_
    simp -dsimp -implicitDefEqProofs (disch := omega) [go_sem, -List.getD_eq_getElem?_getD, ite_yes, ht0, ht1]
    refine ACall.of (toTkS_A l hlen0 c0 _ t0 hS0.app) ?_
    simp -dsimp -implicitDefEqProofs (disch := omega) [go_sem, -List.getD_eq_getElem?_getD, ite_yes, ht0, ht1]
    refine ACall.of (eqTkS_A l l hlen0 hlen0 _ _ _ _ _ (Sl.nth 2 rfl rfl) (Sl.nth 4 rfl rfl)) ?_
    simp -dsimp -implicitDefEqProofs (disch := omega) [go_sem, -List.getD_eq_getElem?_getD, ite_yes, ht0, ht1]
    refine ACall.of (toNmS_A a hlen1 c1 _ t1 hS1.app) ?_
    simp -dsimp -implicitDefEqProofs (disch := omega) [go_sem, -List.getD_eq_getElem?_getD, ite_yes, ht0, ht1]
    refine ACall.of (eqNmS_A a a hlen1 hlen1 _ _ _ _ _ (Sl.nth 3 rfl rfl) (Sl.nth 5 rfl rfl)) ?_
    simp -dsimp -implicitDefEqProofs (disch := omega) [go_sem, -List.getD_eq_getElem?_getD, ite_yes, ht0, ht1]
    exact fin_flat rfl rfl
  · refine ACall.of (toTkS_A l hlen0 c0 _ t0 hS0) ?_
    simp -dsimp -implicitDefEqProofs (disch := omega) [go_sem, -List.getD_eq_getElem?_getD, ite_yes, ht0, ht1]
    refine ACall.of (toNmS_A a hlen1 c1 _ t1 hS1.app) ?_
    simp -dsimp -implicitDefEqProofs (disch := omega) [go_sem, -List.getD_eq_getElem?_getD, ite_yes, ht0, ht1]
    refine ACall.of (sMove_bad l crews a hlen0 hlen1 hg _ _ _ _ _ (Sl.of rfl) (Sl.nth 1 rfl rfl)) ?_
    simp -dsimp -implicitDefEqProofs (disch := omega) [go_sem, -List.getD_eq_getElem?_getD, ite_yes, ht0, ht1]
    refine ACall.of (toTkS_A l hlen0 c0 _ t0 hS0.app) ?_
    simp -dsimp -implicitDefEqProofs (disch := omega) [go_sem, -List.getD_eq_getElem?_getD, ite_yes, ht0, ht1]
    refine ACall.of (toNmS_A a hlen1 c1 _ t1 hS1.app) ?_
    simp -dsimp -implicitDefEqProofs (disch := omega) [go_sem, -List.getD_eq_getElem?_getD, ite_yes, ht0, ht1]
    refine ACall.of (iMove_bad l crews a hlen0 hlen1 hg _ _ _ _ _ (Sl.nth 2 rfl rfl) (Sl.nth 3 rfl rfl)) ?_
    simp -dsimp -implicitDefEqProofs (disch := omega) [go_sem, -List.getD_eq_getElem?_getD, ite_yes, ht0, ht1]
    refine ACall.of (toTkS_A l hlen0 c0 _ t0 hS0.app) ?_
    simp -dsimp -implicitDefEqProofs (disch := omega) [go_sem, -List.getD_eq_getElem?_getD, ite_yes, ht0, ht1]
    refine ACall.of (eqTkS_A l l hlen0 hlen0 _ _ _ _ _ (Sl.nth 2 rfl rfl) (Sl.nth 4 rfl rfl)) ?_
    simp -dsimp -implicitDefEqProofs (disch := omega) [go_sem, -List.getD_eq_getElem?_getD, ite_yes, ht0, ht1]
    refine ACall.of (toNmS_A a hlen1 c1 _ t1 hS1.app) ?_
    simp -dsimp -implicitDefEqProofs (disch := omega) [go_sem, -List.getD_eq_getElem?_getD, ite_yes, ht0, ht1]
    refine ACall.of (eqNmS_A a a hlen1 hlen1 _ _ _ _ _ (Sl.nth 3 rfl rfl) (Sl.nth 5 rfl rfl)) ?_
    simp -dsimp -implicitDefEqProofs (disch := omega) [go_sem, -List.getD_eq_getElem?_getD, ite_yes, ht0, ht1]
    exact fin_flat rfl rfl
end Go.Proofs.Ytihnhidddgdhdaa
