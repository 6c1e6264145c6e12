/- DrawTxA, LawV, FnAlarms, in one text. -/
import Derived.Test.YthnnbgggfpempaaDoorDrawTx
import Derived.Test.YthnnbgggfpempaaDoorDrawAl
import Derived.Test.YthnnbgggfpempaaDoorPaAl
import Derived.Test.YthnnbgggfpempaaDoorRecNm
import Derived.Test.YthnnbgggfpempaaDoorRecAl
import Derived.Test.YthnnbgggfpempaaDoorAlM1
import Derived.Test.YthnnbgggfpempaaDoorAlM2
/- What the alarms' laws draw. -/
namespace Go.Proofs.YthnnbgggfpempaaDoor
open Go.Am Go.Lib
set_option linter.unusedVariables false
set_option linter.unusedSimpArgs false
set_option maxRecDepth 100000
set_option maxHeartbeats 4000000
def PAl (H : Heap) (v : Value) (H' : Heap) : Prop := ∃ b : Al, v = .agg #[.int .i64 b.1, .int .i64 b.2.1, .int .i64 b.2.2.1, .bool b.2.2.2] ∧ H' = H
def PStr (H : Heap) (m : Nat) (v : Value) (H' : Heap) : Prop := ∃ l : List UInt8, v = .string (bs l) ∧ l.length ≤ m ∧ H' = H
def PTake (H : Heap) (v : Value) (H' : Heap) : Prop := ∃ (rs : List Ar) (l : List Al) (r : Rg), v = .tuple #[.slice (some ⟨H.length, 0, none⟩) rs.length rs.length, .slice (some ⟨H.length + 1, 0, none⟩) l.length l.length, .agg #[.int .i64 r.1, .int .i64 r.2.1, .int .i64 r.2.2]] ∧ rs.length ≤ 20 ∧ l.length ≤ 20 ∧
  H' = H ++ [some ⟨rs.flatMap arE, true, 117, 4⟩, some ⟨l.flatMap alE, true, 67, 4⟩]
def PSee (H : Heap) (v : Value) (H' : Heap) : Prop := ∃ (l : List Al) (x : Int), v = .tuple #[.slice (some ⟨H.length, 0, none⟩) l.length l.length, .int .i64 x] ∧ l.length ≤ 20 ∧ H' = H ++ [some ⟨l.flatMap alE, true, 67, 4⟩]
theorem drawTakeReading_R {H : Heap} {tc n : Nat} (h : Bytes H tc n) (cc : Nat) : AFunR Tryd.prog 36 [.slice (some ⟨tc, 0, none⟩) n cc] H (PTake H) := by
  refine AFunR.of_body Tryd.func36 (by kernel_rfl) rfl (by kernel_rfl) (by simp [Tryd.ntmps36]) ?_
  have ht := h.lt
  simp -dsimp -implicitDefEqProofs (disch := omega) [go_sem, -List.getD_eq_getElem?_getD, ite_yes]
  refine ACall.via (alarmRules_R (h.curJ 1 rfl (by omega)) (by omega)) ?_
  rintro _ _ ⟨rs, a1, s1, rfl, l1, q1, q1', rfl⟩
  simp -dsimp -implicitDefEqProofs (disch := omega) [go_sem, -List.getD_eq_getElem?_getD, ite_yes]
  refine ACall.via (alarms_R (h.curJ 1 rfl (by omega)) (by omega)) ?_
  rintro _ _ ⟨l, a2, s2, rfl, l2, q2, q2', rfl⟩
  simp -dsimp -implicitDefEqProofs (disch := omega) [go_sem, -List.getD_eq_getElem?_getD, ite_yes]
  refine ACall.via (pick_R (h.curJ 1 rfl (by omega)) (by omega) 30 (by omega)) ?_
  rintro _ _ ⟨r3, rfl, r30, r31, a3, s3, q3, q3', rfl⟩
  simp -dsimp -implicitDefEqProofs (disch := omega) [go_sem, -List.getD_eq_getElem?_getD, ite_yes]
  refine ACall.via (reading_R (h.curJ 1 rfl (by omega)) (by omega) r3) ?_
  rintro _ _ ⟨r, a4, s4, rfl, q4, q4', rfl⟩
  simp -dsimp -implicitDefEqProofs (disch := omega) [go_sem, -List.getD_eq_getElem?_getD, ite_yes]
  refine EndR.of (.tuple #[.slice (some ⟨H.length, 0, none⟩) rs.length rs.length, .slice (some ⟨H.length + 1, 0, none⟩) l.length l.length, .agg #[.int .i64 r.1, .int .i64 r.2.1, .int .i64 r.2.2]]) _ ⟨rs, l, r, rfl, l1, l2, rfl⟩ (fin_list [some 2, some 3] rfl ?_ (by simp -dsimp -implicitDefEqProofs (disch := omega) [go_sem, -List.getD_eq_getElem?_getD, ite_yes, sg]))
  simp -dsimp -implicitDefEqProofs (disch := omega) [go_sem, -List.getD_eq_getElem?_getD, ite_yes]
  exact ⟨.inl ⟨rfl, arE_flat _⟩, .inl ⟨rfl, alE_flat _⟩⟩
theorem drawSeeAlarm_R {H : Heap} {tc n : Nat} (h : Bytes H tc n) (cc : Nat) : AFunR Tryd.prog 47 [.slice (some ⟨tc, 0, none⟩) n cc] H (PSee H) := by
  refine AFunR.of_body Tryd.func47 (by kernel_rfl) rfl (by kernel_rfl) (by simp [Tryd.ntmps47]) ?_
  have ht := h.lt
  simp -dsimp -implicitDefEqProofs (disch := omega) [go_sem, -List.getD_eq_getElem?_getD, ite_yes]
  refine ACall.via (alarms_R (h.curJ 0 rfl (by omega)) (by omega)) ?_
  rintro _ _ ⟨l, a2, s2, rfl, l2, q2, q2', rfl⟩
  simp -dsimp -implicitDefEqProofs (disch := omega) [go_sem, -List.getD_eq_getElem?_getD, ite_yes]
  refine ACall.via (pick_R (h.curJ 0 rfl (by omega)) (by omega) 8 (by omega)) ?_
  rintro _ _ ⟨x, rfl, r30, r31, a3, s3, q3, q3', rfl⟩
  simp -dsimp -implicitDefEqProofs (disch := omega) [go_sem, -List.getD_eq_getElem?_getD, ite_yes]
  refine EndR.of (.tuple #[.slice (some ⟨H.length, 0, none⟩) l.length l.length, .int .i64 x]) _ ⟨l, x, rfl, l2, rfl⟩ (fin_list [some 1] rfl ?_ (by simp -dsimp -implicitDefEqProofs (disch := omega) [go_sem, -List.getD_eq_getElem?_getD, ite_yes, sg]))
  simp -dsimp -implicitDefEqProofs (disch := omega) [go_sem, -List.getD_eq_getElem?_getD, ite_yes]
  exact .inl ⟨rfl, alE_flat _⟩
theorem drawAlarmText_R {H : Heap} {tc n : Nat} (h : Bytes H tc n) (cc : Nat) : AFunR Tryd.prog 42 [.slice (some ⟨tc, 0, none⟩) n cc] H (PAl H) := by
  refine AFunR.of_body Tryd.func42 (by kernel_rfl) rfl (by kernel_rfl) (by simp [Tryd.ntmps42]) ?_
  have ht := h.lt
  simp -dsimp -implicitDefEqProofs (disch := omega) [go_sem, -List.getD_eq_getElem?_getD, ite_yes]
  refine ACall.via (pick_R (h.curJ 1 rfl (by omega)) (by omega) 8 (by omega)) ?_
  rintro _ _ ⟨x, rfl, x0, x1, a1, s1, q1, q1', rfl⟩
  simp -dsimp -implicitDefEqProofs (disch := omega) [go_sem, -List.getD_eq_getElem?_getD, ite_yes]
  refine ACall.via (pick_R (h.curJ 1 rfl (by omega)) (by omega) 2 (by omega)) ?_
  rintro _ _ ⟨y, rfl, y0, y1, a2, s2, q2, q2', rfl⟩
  simp -dsimp -implicitDefEqProofs (disch := omega) [go_sem, -List.getD_eq_getElem?_getD, ite_yes]
  refine ACall.via (pick_R (h.curJ 1 rfl (by omega)) (by omega) 40 (by omega)) ?_
  rintro _ _ ⟨z, rfl, z0, z1, a3, s3, q3, q3', rfl⟩
  simp -dsimp -implicitDefEqProofs (disch := omega) [go_sem, -List.getD_eq_getElem?_getD, ite_yes]
  refine ACall.via (one_R (h.curJ 1 rfl (by omega)) (by omega) 2 (by omega)) ?_
  rintro _ _ ⟨w, rfl, a4, s4, q4, q4', rfl⟩
  simp -dsimp -implicitDefEqProofs (disch := omega) [go_sem, -List.getD_eq_getElem?_getD, ite_yes]
  refine ACall.via (pick_R (h.curJ 1 rfl (by omega)) (by omega) 16 (by omega)) ?_
  rintro _ _ ⟨r, rfl, r0, r1, a5, s5, q5, q5', rfl⟩
  simp -dsimp -implicitDefEqProofs (disch := omega) [go_sem, -List.getD_eq_getElem?_getD, ite_yes]
  refine AIf.of (fun w0 => ?_) (fun w0 => ?_)
  · simp -dsimp -implicitDefEqProofs (disch := omega) [go_sem, -List.getD_eq_getElem?_getD, ite_yes]
    refine ACall.via (among_R (h.curJ 1 rfl (by omega)) (by omega) [0, 9] (by simp) (by simp) _ _ (by omega) (Sl.nth 3 rfl rfl)) ?_
    rintro _ _ ⟨u, rfl, um, a6, s6, q6, q6', rfl⟩
    simp -dsimp -implicitDefEqProofs (disch := omega) [go_sem, -List.getD_eq_getElem?_getD, ite_yes]
    exact EndR.of (.agg #[.int .i64 u, .int .i64 (1 + y), .int .i64 z, .bool w]) H ⟨(u, 1 + y, z, w), rfl, rfl⟩ (fin_flat rfl rfl)
  simp -dsimp -implicitDefEqProofs (disch := omega) [go_sem, -List.getD_eq_getElem?_getD, ite_yes]
  refine AIf.of (fun w1 => ?_) (fun w1 => ?_)
  · simp -dsimp -implicitDefEqProofs (disch := omega) [go_sem, -List.getD_eq_getElem?_getD, ite_yes]
    refine ACall.via (among_R (h.curJ 1 rfl (by omega)) (by omega) [0, 3] (by simp) (by simp) _ _ (by omega) (Sl.nth 3 rfl rfl)) ?_
    rintro _ _ ⟨u, rfl, um, a6, s6, q6, q6', rfl⟩
    simp -dsimp -implicitDefEqProofs (disch := omega) [go_sem, -List.getD_eq_getElem?_getD, ite_yes]
    exact EndR.of (.agg #[.int .i64 (1 + x), .int .i64 u, .int .i64 z, .bool w]) H ⟨(1 + x, u, z, w), rfl, rfl⟩ (fin_flat rfl rfl)
  simp -dsimp -implicitDefEqProofs (disch := omega) [go_sem, -List.getD_eq_getElem?_getD, ite_yes]
  refine AIf.of (fun w2 => ?_) (fun w2 => ?_)
  · simp -dsimp -implicitDefEqProofs (disch := omega) [go_sem, -List.getD_eq_getElem?_getD, ite_yes]
    refine ACall.via (among_R (h.curJ 1 rfl (by omega)) (by omega) [9999, 10000, -1] (by simp) (by simp) _ _ (by omega) (Sl.nth 3 rfl rfl)) ?_
    rintro _ _ ⟨u, rfl, um, a6, s6, q6, q6', rfl⟩
    simp -dsimp -implicitDefEqProofs (disch := omega) [go_sem, -List.getD_eq_getElem?_getD, ite_yes]
    exact EndR.of (.agg #[.int .i64 (1 + x), .int .i64 (1 + y), .int .i64 u, .bool w]) H ⟨(1 + x, 1 + y, u, w), rfl, rfl⟩ (fin_flat rfl rfl)
  simp -dsimp -implicitDefEqProofs (disch := omega) [go_sem, -List.getD_eq_getElem?_getD, ite_yes]
  exact EndR.of (.agg #[.int .i64 (1 + x), .int .i64 (1 + y), .int .i64 z, .bool w]) H ⟨(1 + x, 1 + y, z, w), rfl, rfl⟩ (fin_flat rfl rfl)
theorem drawParseAlarm_R {H : Heap} {tc n : Nat} (h : Bytes H tc n) (cc : Nat) : AFunR Tryd.prog 46 [.slice (some ⟨tc, 0, none⟩) n cc] H (PStr H 1000) := by
  refine AFunR.of_body Tryd.func46 (by kernel_rfl) rfl (by kernel_rfl) (by simp [Tryd.ntmps46]) ?_
  have ht := h.lt
  simp -dsimp -implicitDefEqProofs (disch := omega) [go_sem, -List.getD_eq_getElem?_getD, ite_yes]
  refine ACall.via (pick_R (h.curJ 0 rfl (by omega)) (by omega) 8 (by omega)) ?_
  rintro _ _ ⟨x, rfl, x0, x1, a1, s1, q1, q1', rfl⟩
  simp -dsimp -implicitDefEqProofs (disch := omega) [go_sem, -List.getD_eq_getElem?_getD, ite_yes]
  refine ACall.via (pick_R (h.curJ 0 rfl (by omega)) (by omega) 2 (by omega)) ?_
  rintro _ _ ⟨y, rfl, y0, y1, a2, s2, q2, q2', rfl⟩
  simp -dsimp -implicitDefEqProofs (disch := omega) [go_sem, -List.getD_eq_getElem?_getD, ite_yes]
  refine ACall.via (pick_R (h.curJ 0 rfl (by omega)) (by omega) 40 (by omega)) ?_
  rintro _ _ ⟨z, rfl, z0, z1, a3, s3, q3, q3', rfl⟩
  simp -dsimp -implicitDefEqProofs (disch := omega) [go_sem, -List.getD_eq_getElem?_getD, ite_yes]
  refine ACall.via (one_R (h.curJ 0 rfl (by omega)) (by omega) 2 (by omega)) ?_
  rintro _ _ ⟨w, rfl, a4, s4, q4, q4', rfl⟩
  have hal : isAl (1 + x, 1 + y, z, w) = true := by simp [isAl, inB]; omega
  have hlen := alText_len hal
  simp -dsimp -implicitDefEqProofs (disch := omega) [go_sem, -List.getD_eq_getElem?_getD, ite_yes]
  refine ACall.of (l21Text_A (1 + x, 1 + y, z, w) hal _) ?_
  simp -dsimp -implicitDefEqProofs (disch := omega) [go_sem, -List.getD_eq_getElem?_getD, ite_yes]
  refine ACall.via (one_R (h.curJ 0 rfl (by omega)) (by omega) 4 (by omega)) ?_
  rintro _ _ ⟨b, rfl, a5, s5, q5, q5', rfl⟩
  cases b
  · simp -dsimp -implicitDefEqProofs (disch := omega) [go_sem, -List.getD_eq_getElem?_getD, ite_yes]
    exact EndR.of (.string (bs (alText (1 + x, 1 + y, z, w)))) H ⟨_, rfl, by omega, rfl⟩ (fin_flat rfl rfl)
  · simp -dsimp -implicitDefEqProofs (disch := omega) [go_sem, -List.getD_eq_getElem?_getD, ite_yes]
    refine ACall.via (spoilt_R (h.curJ 0 rfl (by omega)) (by omega) (alText (1 + x, 1 + y, z, w)) [49, 32, 115, 101, 104, 108, 111, 119] (by omega) (by simp) (by simp)) ?_
    rintro _ _ ⟨l, rfl, l1, a6, s6, q6, q6', rfl⟩
    simp -dsimp -implicitDefEqProofs (disch := omega) [go_sem, -List.getD_eq_getElem?_getD, ite_yes]
    exact EndR.of (.string (bs l)) H ⟨l, rfl, by omega, rfl⟩ (fin_flat rfl rfl)
end Go.Proofs.YthnnbgggfpempaaDoor
/- The laws' vBig, vInts, vHas and vAlarms. -/
namespace Go.Proofs.YthnnbgggfpempaaDoor
open Go.Am
set_option linter.unusedVariables false
set_option linter.unusedSimpArgs false
set_option maxRecDepth 100000
set_option maxHeartbeats 1000000

theorem vBig_A (n cc : Nat) (a : Option Addr) (H : Heap) : AFunC Tryd.prog 35 [.slice a n cc] H (.bool (decide (65536 < (n : Int)))) H := by
  refine AFunC.of_body Tryd.func35 (by kernel_rfl) rfl (by kernel_rfl) (by simp [Tryd.ntmps35]) ?_
  simp -dsimp -implicitDefEqProofs (disch := omega) [go_sem, -List.getD_eq_getElem?_getD, ite_yes]
  exact fin_flat0 rfl (by first | rfl | simp)
theorem vInts_same (l : List Int) (hl : l.length ≤ 1048577) (c d : Nat) (H : Heap) (t u : Nat) (hS : Sl nmE H t l) (hU : Sl nmE H u l) :
    AFunC Tryd.prog 52 [.slice (some ⟨t, 0, none⟩) l.length c, .slice (some ⟨u, 0, none⟩) l.length d] H (.bool true) H := by
  refine AFunC.of_body Tryd.func52 (by kernel_rfl) rfl (by kernel_rfl) (by simp [Tryd.ntmps52]) ?_
  have ht := hS.lt
  have hu := hU.lt
  have cs := fun k hk => hS.one (g := fun n => Value.int .i64 n) 0 k hk
  have cu := fun k hk => hU.one (g := fun n => Value.int .i64 n) 0 k hk
  simp -dsimp -implicitDefEqProofs (disch := omega) [go_sem, -List.getD_eq_getElem?_getD, ite_yes]
  refine ALoop.intro (ι := Nat) (fun k => k ≤ l.length) (fun k => [(0, .slice (some ⟨t, 0, none⟩) l.length c), (1, .slice (some ⟨u, 0, none⟩) l.length d), (5, .int .i64 k)]) (fun _ => H) (fun k => l.length - k) 0 (by omega) ?_ ?_
  · exact weakS_same (by simp -dsimp -implicitDefEqProofs (disch := omega) [go_sem, -List.getD_eq_getElem?_getD, ite_yes, ht, hu])
  · intro k hk
    by_cases hlt : k < l.length
    · simp -dsimp -implicitDefEqProofs (disch := omega) [go_sem, -List.getD_eq_getElem?_getD, ite_yes, hlt]
      refine ADraw.quiet (by kernel_rfl) (by kernel_rfl) (by kernel_rfl) ?_
      simp -dsimp -implicitDefEqProofs (disch := omega) [go_sem, -List.getD_eq_getElem?_getD, ite_yes, hlt, cs, cu]
      refine LoopEnd.of (k + 1) (by omega) (by omega) (weakS_same (by simp -dsimp -implicitDefEqProofs (disch := omega) [go_sem, -List.getD_eq_getElem?_getD, ite_yes, ht, hu]))
    · simp -dsimp -implicitDefEqProofs (disch := omega) [go_sem, -List.getD_eq_getElem?_getD, ite_yes, hlt]
      exact fin_flat0 rfl rfl
theorem vInts_nil (d u : Nat) (H : Heap) : AFunC Tryd.prog 52 [.slice none 0 0, .slice (some ⟨u, 0, none⟩) 0 d] H (.bool true) H := by
  refine AFunC.of_body Tryd.func52 (by kernel_rfl) rfl (by kernel_rfl) (by simp [Tryd.ntmps52]) ?_
  simp -dsimp -implicitDefEqProofs (disch := omega) [go_sem, -List.getD_eq_getElem?_getD, ite_yes]
  refine ALoop.intro (ι := Unit) (fun _ => True) (fun _ => [(0, .slice none 0 0), (5, .int .i64 0)]) (fun _ => H) (fun _ => 0) () trivial ?_ ?_
  · exact weakS_same (by simp -dsimp -implicitDefEqProofs (disch := omega) [go_sem, -List.getD_eq_getElem?_getD, ite_yes])
  · intro _ _
    simp -dsimp -implicitDefEqProofs (disch := omega) [go_sem, -List.getD_eq_getElem?_getD, ite_yes]
    exact fin_flat0 rfl rfl
theorem vAlarms_same (l : List Al) (hl : l.length ≤ 1048577) (c d : Nat) (H : Heap) (t u : Nat) (hS : Sl alE H t l) (hU : Sl alE H u l) :
    AFunC Tryd.prog 39 [.slice (some ⟨t, 0, none⟩) l.length c, .slice (some ⟨u, 0, none⟩) l.length d] H (.bool true) H := by
  refine AFunC.of_body Tryd.func39 (by kernel_rfl) rfl (by kernel_rfl) (by simp [Tryd.ntmps39]) ?_
  have ht := hS.lt
  have hu := hU.lt
  have cs := fun k hk => hS.cells (s := 4) (fun _ => rfl) (0, 0, 0, false) k hk
  have cu := fun k hk => hU.cells (s := 4) (fun _ => rfl) (0, 0, 0, false) k hk
  simp only [alE] at cs cu
  simp -dsimp -implicitDefEqProofs (disch := omega) [go_sem, -List.getD_eq_getElem?_getD, ite_yes]
  refine ALoop.intro (ι := Nat) (fun k => k ≤ l.length) (fun k => [(0, .slice (some ⟨t, 0, none⟩) l.length c), (1, .slice (some ⟨u, 0, none⟩) l.length d), (5, .int .i64 k)]) (fun _ => H) (fun k => l.length - k) 0 (by omega) ?_ ?_
  · exact weakS_same (by simp -dsimp -implicitDefEqProofs (disch := omega) [go_sem, -List.getD_eq_getElem?_getD, ite_yes, ht, hu])
  · intro k hk
    by_cases hlt : k < l.length
    · simp -dsimp -implicitDefEqProofs (disch := omega) [go_sem, -List.getD_eq_getElem?_getD, ite_yes, hlt]
      refine ADraw.quiet (by kernel_rfl) (by kernel_rfl) (by kernel_rfl) ?_
      simp -dsimp -implicitDefEqProofs (disch := omega) [go_sem, -List.getD_eq_getElem?_getD, ite_yes, hlt, cs, cu]
      refine LoopEnd.of (k + 1) (by omega) (by omega) (weakS_same (by simp -dsimp -implicitDefEqProofs (disch := omega) [go_sem, -List.getD_eq_getElem?_getD, ite_yes, ht, hu]))
    · simp -dsimp -implicitDefEqProofs (disch := omega) [go_sem, -List.getD_eq_getElem?_getD, ite_yes, hlt]
      exact fin_flat0 rfl rfl
theorem vAlarms_nil (d u : Nat) (H : Heap) : AFunC Tryd.prog 39 [.slice none 0 0, .slice (some ⟨u, 0, none⟩) 0 d] H (.bool true) H := by
  refine AFunC.of_body Tryd.func39 (by kernel_rfl) rfl (by kernel_rfl) (by simp [Tryd.ntmps39]) ?_
  simp -dsimp -implicitDefEqProofs (disch := omega) [go_sem, -List.getD_eq_getElem?_getD, ite_yes]
  refine ALoop.intro (ι := Unit) (fun _ => True) (fun _ => [(0, .slice none 0 0), (5, .int .i64 0)]) (fun _ => H) (fun _ => 0) () trivial ?_ ?_
  · exact weakS_same (by simp -dsimp -implicitDefEqProofs (disch := omega) [go_sem, -List.getD_eq_getElem?_getD, ite_yes])
  · intro _ _
    simp -dsimp -implicitDefEqProofs (disch := omega) [go_sem, -List.getD_eq_getElem?_getD, ite_yes]
    exact fin_flat0 rfl rfl
theorem vHas_no (l : List Int) (x : Int) (hx : ∀ k, k < l.length → l.getD k 0 ≠ x) (hl : l.length ≤ 1048577) (c : Nat) (H : Heap) (t : Nat) (hS : Sl nmE H t l) :
    AFunC Tryd.prog 53 [.slice (some ⟨t, 0, none⟩) l.length c, .int .i64 x] H (.bool false) H := by
  refine AFunC.of_body Tryd.func53 (by kernel_rfl) rfl (by kernel_rfl) (by simp [Tryd.ntmps53]) ?_
  have ht := hS.lt
  have cs := fun k hk => hS.one (g := fun n => Value.int .i64 n) 0 k hk
  simp -dsimp -implicitDefEqProofs (disch := omega) [go_sem, -List.getD_eq_getElem?_getD, ite_yes]
  refine ALoop.intro (ι := Nat) (fun k => k ≤ l.length) (fun k => [(0, .slice (some ⟨t, 0, none⟩) l.length c), (1, .int .i64 x), (5, .int .i64 k)]) (fun _ => H) (fun k => l.length - k) 0 (by omega) ?_ ?_
  · exact weakS_same (by simp -dsimp -implicitDefEqProofs (disch := omega) [go_sem, -List.getD_eq_getElem?_getD, ite_yes, ht])
  · intro k hk
    by_cases hlt : k < l.length
    · have hn := hx k hlt
      simp -dsimp -implicitDefEqProofs (disch := omega) [go_sem, -List.getD_eq_getElem?_getD, ite_yes, hlt, cs, hn]
      refine LoopEnd.of (k + 1) (by omega) (by omega) (weakS_same (by simp -dsimp -implicitDefEqProofs (disch := omega) [go_sem, -List.getD_eq_getElem?_getD, ite_yes, ht]))
    · simp -dsimp -implicitDefEqProofs (disch := omega) [go_sem, -List.getD_eq_getElem?_getD, ite_yes, hlt]
      exact fin_flat0 rfl rfl
theorem vHas_yes (l : List Int) (x : Int) (i : Nat) (hi : i < l.length) (hx : l.getD i 0 = x) (hl : l.length ≤ 1048577) (c : Nat) (H : Heap) (t : Nat) (hS : Sl nmE H t l) :
    AFunC Tryd.prog 53 [.slice (some ⟨t, 0, none⟩) l.length c, .int .i64 x] H (.bool true) H := by
  refine AFunC.of_body Tryd.func53 (by kernel_rfl) rfl (by kernel_rfl) (by simp [Tryd.ntmps53]) ?_
  have ht := hS.lt
  have cs := fun k hk => hS.one (g := fun n => Value.int .i64 n) 0 k hk
  simp -dsimp -implicitDefEqProofs (disch := omega) [go_sem, -List.getD_eq_getElem?_getD, ite_yes]
  refine ALoop.intro (ι := Nat) (fun k => k ≤ i) (fun k => [(0, .slice (some ⟨t, 0, none⟩) l.length c), (1, .int .i64 x), (5, .int .i64 k)]) (fun _ => H) (fun k => l.length - k) 0 (by omega) ?_ ?_
  · exact weakS_same (by simp -dsimp -implicitDefEqProofs (disch := omega) [go_sem, -List.getD_eq_getElem?_getD, ite_yes, ht])
  · intro k hk
    have hlt : k < l.length := by omega
    by_cases he : l.getD k 0 = x
    · simp -dsimp -implicitDefEqProofs (disch := omega) [go_sem, -List.getD_eq_getElem?_getD, ite_yes, hlt, cs, he]
      exact fin_flat0 rfl rfl
    · have : k ≠ i := fun e => he (by rw [e]; exact hx)
      simp -dsimp -implicitDefEqProofs (disch := omega) [go_sem, -List.getD_eq_getElem?_getD, ite_yes, hlt, cs, he]
      refine LoopEnd.of (k + 1) (by omega) (by omega) (weakS_same (by simp -dsimp -implicitDefEqProofs (disch := omega) [go_sem, -List.getD_eq_getElem?_getD, ite_yes, ht]))
end Go.Proofs.YthnnbgggfpempaaDoor
/- FnAlarms: the law. -/
namespace Go.Proofs.YthnnbgggfpempaaDoor
open Go.Am Go.Lib
set_option linter.unusedVariables false
set_option linter.unusedSimpArgs false
set_option maxRecDepth 100000
set_option maxHeartbeats 4000000
theorem parAl_spec {l : List UInt8} (h : (parAl l).2 = true) : isAl (parAl l).1 = true ∧ alText (parAl l).1 = l := by
  by_cases hex : ∃ r, isAl r = true ∧ alText r = l
  · obtain ⟨r, h1, h2⟩ := hex
    rw [parAl_yes h1 h2]
    exact ⟨h1, h2⟩
  · rw [parAl_no (fun r h1 h2 => hex ⟨r, h1, h2⟩)] at h
    cases h
theorem see_ord {l : List Al} {i : Nat} (h : Ord l) (hi : i < l.length) : Ord (seeL l i) := by
  unfold seeL
  have hy := h.1 _ (List.getElem_mem hi)
  have hn : ∀ j (hj : j < (l.set i ((l.getD i aD).1, (l.getD i aD).2.1, (l.getD i aD).2.2.1, true)).length), ((l.set i ((l.getD i aD).1, (l.getD i aD).2.1, (l.getD i aD).2.2.1, true))[j]).1 = (l[j]'(by simpa using hj)).1 := fun j hj => by
    rw [List.getElem_set]
    split
    · rename_i e
      subst e
      have e := congrArg (fun a : Al => a.1) (getD_el (d := aD) hi)
      exact e
    · rfl
  refine ⟨fun a ha => ?_, List.pairwise_iff_getElem.2 fun j k hj hk hjk => ?_⟩
  · rcases List.mem_or_eq_of_mem_set ha with ha | ha
    · exact h.1 a ha
    · rw [ha, getD_el hi]; exact hy
  · rw [hn j hj, hn k hk]
    exact List.pairwise_iff_getElem.1 h.2 j k (by simpa using hj) (by simpa using hk) hjk
theorem lawAlarms_A {H : Heap} {tc n : Nat} (h : Bytes H tc n) (cc : Nat) : AFunC Tryd.prog 5 [.slice (some ⟨tc, 0, none⟩) n cc] H (.bool true) H := by
  refine AFunC.of_awp Tryd.func5 (by kernel_rfl) rfl (by simp [Tryd.ntmps5]) ?_
  have ht := h.lt
  refine AWp.step 2 [(0, .slice (some ⟨tc, 0, none⟩) n cc)] H (by kernel_rfl) (by kernel_rfl) ?_ ?_
  · simp -dsimp -implicitDefEqProofs (disch := omega) [go_sem, -List.getD_eq_getElem?_getD, ite_yes]
    refine ACall.of (vBig_A _ _ _ _) ?_
    simp -dsimp -implicitDefEqProofs (disch := omega) [go_sem, -List.getD_eq_getElem?_getD, ite_yes]
    refine AIf.of (fun h' => ?_) (fun h' => ?_)
    · simp -dsimp -implicitDefEqProofs (disch := omega) [go_sem, -List.getD_eq_getElem?_getD, ite_yes]
      exact fin_flat0 rfl rfl
    · simp -dsimp -implicitDefEqProofs (disch := omega) [go_sem, -List.getD_eq_getElem?_getD, ite_yes]
      exact ⟨weakS_same (by simp -dsimp -implicitDefEqProofs (disch := omega) [go_sem, -List.getD_eq_getElem?_getD, ite_yes, ht])⟩
  simp only [AWp_drop, AWp_drop0]
  refine AWp.step 4 [(0, .slice (some ⟨tc, 0, none⟩) n cc)] H (by kernel_rfl) (by kernel_rfl) ?_ ?_
  · simp -dsimp -implicitDefEqProofs (disch := omega) [go_sem, -List.getD_eq_getElem?_getD, ite_yes]
    refine ACall.via (drawTakeReading_R h cc) ?_
    rintro _ _ ⟨rs, l, r, rfl, l1, l2, rfl⟩
    have hrl : rs.length ≤ 1048577 := by omega
    have hll : l.length ≤ 1048577 := by omega
    cases hg : takeOk rs l r
    · simp -dsimp -implicitDefEqProofs (disch := omega) [go_sem, -List.getD_eq_getElem?_getD, ite_yes]
      refine ACall.of (iTakeR_bad rs l r hrl hll hg _ _ _ _ _ (Sl.of rfl) (Sl.nth 1 rfl rfl)) ?_
      simp -dsimp -implicitDefEqProofs (disch := omega) [go_sem, -List.getD_eq_getElem?_getD, ite_yes]
      refine ACall.of (sTakeR_bad rs l r hrl hll hg _ _ _ _ _ (Sl.of rfl) (Sl.nth 1 rfl rfl)) ?_
      simp -dsimp -implicitDefEqProofs (disch := omega) [go_sem, -List.getD_eq_getElem?_getD, ite_yes]
      refine ACall.of (vAlarms_nil _ _ _) ?_
      simp -dsimp -implicitDefEqProofs (disch := omega) [go_sem, -List.getD_eq_getElem?_getD, ite_yes]
      refine ACall.of (iAreRules_A rs hrl _ _ _ (Sl.of rfl)) ?_
      simp -dsimp -implicitDefEqProofs (disch := omega) [go_sem, -List.getD_eq_getElem?_getD, ite_yes]
      refine ACall.of (sAreRules_A rs hrl _ _ _ (Sl.of rfl)) ?_
      simp -dsimp -implicitDefEqProofs (disch := omega) [go_sem, -List.getD_eq_getElem?_getD, ite_yes]
      exact ⟨weakS_drop (by simp -dsimp -implicitDefEqProofs (disch := omega) [go_sem, -List.getD_eq_getElem?_getD, ite_yes, ht])⟩
    obtain ⟨g1, g2, g3⟩ := takeOk_at hg
    have ol := goodA_ord.1 g2
    have om := takeL_ord (rs := rs) (r := r) ol g3
    have tw := takeL_twice (rs := rs) (r := r) ol g3
    have cn := cnt_take (rs := rs) (r := r) ol
    have gm := goodA_ord.2 om
    have m8 := goodA_len gm
    have l8 := goodA_len g2
    have A1 := fun c0 c1 H t0 t1 => iTakeR_good rs l r hrl hll hg c0 c1 H t0 t1
    have A2 := fun c0 c1 H t0 t1 => sTakeR_good rs l r hrl hll hg c0 c1 H t0 t1
    generalize takeL rs l r = m at *
    have hg2 : takeOk rs m r = true := by simp [takeOk, g1, gm, g3]
    have hml : m.length ≤ 1048577 := by omega
    have A3 := fun c0 c1 H t0 t1 => iTakeR_good rs m r hrl hml hg2 c0 c1 H t0 t1
    rw [tw] at A3
    simp -dsimp -implicitDefEqProofs (disch := omega) [go_sem, -List.getD_eq_getElem?_getD, ite_yes]
    refine ACall.of (A1 _ _ _ _ _ (Sl.of rfl) (Sl.nth 1 rfl rfl)) ?_
    simp -dsimp -implicitDefEqProofs (disch := omega) [go_sem, -List.getD_eq_getElem?_getD, ite_yes]
    refine ACall.of (A2 _ _ _ _ _ (Sl.of rfl) (Sl.nth 1 rfl rfl) (by rw [blkSz_len_add]; rfl)) ?_
    simp -dsimp -implicitDefEqProofs (disch := omega) [go_sem, -List.getD_eq_getElem?_getD, ite_yes]
    refine ACall.of (vAlarms_same m hml _ _ _ _ _ (Sl.nth 3 rfl rfl) (Sl.nth 4 rfl rfl)) ?_
    simp -dsimp -implicitDefEqProofs (disch := omega) [go_sem, -List.getD_eq_getElem?_getD, ite_yes]
    refine ACall.of (iAreRules_A rs hrl _ _ _ (Sl.of rfl)) ?_
    simp -dsimp -implicitDefEqProofs (disch := omega) [go_sem, -List.getD_eq_getElem?_getD, ite_yes]
    refine ACall.of (sAreRules_A rs hrl _ _ _ (Sl.of rfl)) ?_
    simp -dsimp -implicitDefEqProofs (disch := omega) [go_sem, -List.getD_eq_getElem?_getD, ite_yes]
    refine ACall.of (A3 _ _ _ _ _ (Sl.of rfl) (Sl.nth 3 rfl rfl)) ?_
    simp -dsimp -implicitDefEqProofs (disch := omega) [go_sem, -List.getD_eq_getElem?_getD, ite_yes]
    refine ACall.of (vAlarms_same m hml _ _ _ _ _ (Sl.nth 5 rfl rfl) (Sl.nth 3 rfl rfl)) ?_
    simp -dsimp -implicitDefEqProofs (disch := omega) [go_sem, -List.getD_eq_getElem?_getD, ite_yes]
    have lfl := alE_length l
    have lfm := alE_length m
    refine ALoop.intro (ι := Nat) (fun k => k ≤ l.length) (fun k => [(0, .slice (some ⟨tc, 0, none⟩) n cc), (4, .slice (some ⟨H.length, 0, none⟩) l.length l.length), (5, .pointer (some ⟨H.length + 1, 0, none⟩)), (6, .slice (some ⟨H.length + 2, 0, none⟩) m.length m.length), (12, .int .i64 (cntTo l r.2.1 k)), (13, .int .i64 0), (14, .int .i64 k)])
      (fun _ => H ++ [some ⟨l.flatMap alE, true, 67, 4⟩, some ⟨[.int .i64 r.1, .int .i64 r.2.1, .int .i64 r.2.2], true, 59, 1⟩, some ⟨m.flatMap alE, true, 67, 4⟩]) (fun k => l.length - k) 0 (by omega) ?_ ?_
    · refine weakS_mk [some 1, some 2, some 3] rfl ?_ (by simp -dsimp -implicitDefEqProofs (disch := omega) [go_sem, -List.getD_eq_getElem?_getD, ite_yes, ht, cntTo])
      simp -dsimp -implicitDefEqProofs (disch := omega) [go_sem, -List.getD_eq_getElem?_getD, ite_yes]
      exact ⟨.inl ⟨rfl, alE_flat _⟩, .inl ⟨rfl, rfl⟩, .inl ⟨rfl, alE_flat _⟩⟩
    intro k hk
    by_cases hlt : k < l.length
    · have hlti : (k : Int) < (l.length : Int) := by omega
      have nx := cntTo_next (node := r.2.1) hlt
      have cle := cntTo_le l r.2.1 k
      have nc := al_node l [] hlt
      rw [List.append_nil] at nc
      have k4 : k * 4 + 1 ≤ l.length * 4 := by omega
      simp -dsimp -implicitDefEqProofs (disch := omega) [go_sem, -List.getD_eq_getElem?_getD, ite_yes, hlt, hlti]
      refine ADraw.quiet (by kernel_rfl) (by kernel_rfl) (by kernel_rfl) ?_
      by_cases e : (l.getD k aD).1 = r.2.1
      · rw [if_pos e] at nx
        rw [e] at nc
        simp -dsimp -implicitDefEqProofs (disch := omega) [go_sem, -List.getD_eq_getElem?_getD, ite_yes, hlt, hlti, nc, k4, lfl]
        refine LoopEnd.of (k + 1) (by omega) (by omega) (weakS_mk [some 0, some 1, some 2] rfl ?_ (by simp -dsimp -implicitDefEqProofs (disch := omega) [go_sem, -List.getD_eq_getElem?_getD, ite_yes, ht, nx]))
        simp -dsimp -implicitDefEqProofs (disch := omega) [go_sem, -List.getD_eq_getElem?_getD, ite_yes]
        exact ⟨.inl ⟨rfl, alE_flat _⟩, .inl ⟨rfl, rfl⟩, .inl ⟨rfl, alE_flat _⟩⟩
      · rw [if_neg e] at nx
        simp -dsimp -implicitDefEqProofs (disch := omega) [go_sem, -List.getD_eq_getElem?_getD, ite_yes, hlt, hlti, nc, k4, lfl, e]
        refine LoopEnd.of (k + 1) (by omega) (by omega) (weakS_mk [some 0, some 1, some 2] rfl ?_ (by simp -dsimp -implicitDefEqProofs (disch := omega) [go_sem, -List.getD_eq_getElem?_getD, ite_yes, ht, nx]))
        simp -dsimp -implicitDefEqProofs (disch := omega) [go_sem, -List.getD_eq_getElem?_getD, ite_yes]
        exact ⟨.inl ⟨rfl, alE_flat _⟩, .inl ⟨rfl, rfl⟩, .inl ⟨rfl, alE_flat _⟩⟩
    obtain rfl : k = l.length := by omega
    have hlti : ¬ (l.length : Int) < (l.length : Int) := by omega
    have cle := cntTo_le l r.2.1 l.length
    simp -dsimp -implicitDefEqProofs (disch := omega) [go_sem, -List.getD_eq_getElem?_getD, ite_yes, hlti]
    refine ALoop.intro (ι := Nat) (fun k => k ≤ m.length) (fun k => [(0, .slice (some ⟨tc, 0, none⟩) n cc), (5, .pointer (some ⟨H.length, 0, none⟩)), (6, .slice (some ⟨H.length + 1, 0, none⟩) m.length m.length), (12, .int .i64 (cntTo l r.2.1 l.length)), (13, .int .i64 (cntTo m r.2.1 k)), (15, .int .i64 k)])
      (fun _ => H ++ [some ⟨[.int .i64 r.1, .int .i64 r.2.1, .int .i64 r.2.2], true, 59, 1⟩, some ⟨m.flatMap alE, true, 67, 4⟩]) (fun k => m.length - k) 0 (by omega) ?_ ?_
    · refine weakS_mk [some 1, some 2] rfl ?_ (by simp -dsimp -implicitDefEqProofs (disch := omega) [go_sem, -List.getD_eq_getElem?_getD, ite_yes, ht, cntTo])
      simp -dsimp -implicitDefEqProofs (disch := omega) [go_sem, -List.getD_eq_getElem?_getD, ite_yes]
      exact ⟨.inl ⟨rfl, rfl⟩, .inl ⟨rfl, alE_flat _⟩⟩
    intro k hk
    by_cases hlt : k < m.length
    · have hlti : (k : Int) < (m.length : Int) := by omega
      have nx := cntTo_next (node := r.2.1) hlt
      have cle := cntTo_le m r.2.1 k
      have nc := al_node m [] hlt
      rw [List.append_nil] at nc
      have k4 : k * 4 + 1 ≤ m.length * 4 := by omega
      simp -dsimp -implicitDefEqProofs (disch := omega) [go_sem, -List.getD_eq_getElem?_getD, ite_yes, hlt, hlti]
      refine ADraw.quiet (by kernel_rfl) (by kernel_rfl) (by kernel_rfl) ?_
      by_cases e : (m.getD k aD).1 = r.2.1
      · rw [if_pos e] at nx
        rw [e] at nc
        simp -dsimp -implicitDefEqProofs (disch := omega) [go_sem, -List.getD_eq_getElem?_getD, ite_yes, hlt, hlti, nc, k4, lfm]
        refine LoopEnd.of (k + 1) (by omega) (by omega) (weakS_mk [some 0, some 1] rfl ?_ (by simp -dsimp -implicitDefEqProofs (disch := omega) [go_sem, -List.getD_eq_getElem?_getD, ite_yes, ht, nx]))
        simp -dsimp -implicitDefEqProofs (disch := omega) [go_sem, -List.getD_eq_getElem?_getD, ite_yes]
        exact ⟨.inl ⟨rfl, rfl⟩, .inl ⟨rfl, alE_flat _⟩⟩
      · rw [if_neg e] at nx
        simp -dsimp -implicitDefEqProofs (disch := omega) [go_sem, -List.getD_eq_getElem?_getD, ite_yes, hlt, hlti, nc, k4, lfm, e]
        refine LoopEnd.of (k + 1) (by omega) (by omega) (weakS_mk [some 0, some 1] rfl ?_ (by simp -dsimp -implicitDefEqProofs (disch := omega) [go_sem, -List.getD_eq_getElem?_getD, ite_yes, ht, nx]))
        simp -dsimp -implicitDefEqProofs (disch := omega) [go_sem, -List.getD_eq_getElem?_getD, ite_yes]
        exact ⟨.inl ⟨rfl, rfl⟩, .inl ⟨rfl, alE_flat _⟩⟩
    obtain rfl : k = m.length := by omega
    have hlti : ¬ (m.length : Int) < (m.length : Int) := by omega
    rw [cn]
    simp -dsimp -implicitDefEqProofs (disch := omega) [go_sem, -List.getD_eq_getElem?_getD, ite_yes, hlti]
    exact ⟨weakS_drop (by simp -dsimp -implicitDefEqProofs (disch := omega) [go_sem, -List.getD_eq_getElem?_getD, ite_yes, ht])⟩
  simp only [AWp_drop, AWp_drop0]
  refine AWp.step 4 [(0, .slice (some ⟨tc, 0, none⟩) n cc)] H (by kernel_rfl) (by kernel_rfl) ?_ ?_
  · simp -dsimp -implicitDefEqProofs (disch := omega) [go_sem, -List.getD_eq_getElem?_getD, ite_yes]
    refine ACall.via (drawAlarmText_R h cc) ?_
    rintro _ _ ⟨⟨x, y, z, u⟩, rfl, rfl⟩
    cases hr : isAl (x, y, z, u)
    · simp -dsimp -implicitDefEqProofs (disch := omega) [go_sem, -List.getD_eq_getElem?_getD, ite_yes]
      refine ACall.of (iAlarmText_A (x, y, z, u) _) ?_
      rw [hr]
      simp -dsimp -implicitDefEqProofs (disch := omega) [go_sem, -List.getD_eq_getElem?_getD, ite_yes]
      refine ACall.of (iParAl_A [] (by simp) _) ?_
      simp -dsimp -implicitDefEqProofs (disch := omega) [go_sem, -List.getD_eq_getElem?_getD, ite_yes]
      refine ACall.of (sAlarmText_A (x, y, z, u) _) ?_
      rw [hr]
      simp -dsimp -implicitDefEqProofs (disch := omega) [go_sem, -List.getD_eq_getElem?_getD, ite_yes]
      exact ⟨weakS_drop (by simp -dsimp -implicitDefEqProofs (disch := omega) [go_sem, -List.getD_eq_getElem?_getD, ite_yes, ht])⟩
    · have hp := parAl_yes hr rfl
      have hlen := alText_len hr
      simp -dsimp -implicitDefEqProofs (disch := omega) [go_sem, -List.getD_eq_getElem?_getD, ite_yes]
      refine ACall.of (iAlarmText_A (x, y, z, u) _) ?_
      rw [hr]
      simp -dsimp -implicitDefEqProofs (disch := omega) [go_sem, -List.getD_eq_getElem?_getD, ite_yes]
      refine ACall.of (iParAl_A (alText (x, y, z, u)) (by omega) _) ?_
      rw [hp]
      simp -dsimp -implicitDefEqProofs (disch := omega) [go_sem, -List.getD_eq_getElem?_getD, ite_yes]
      refine ACall.of (sAlarmText_A (x, y, z, u) _) ?_
      rw [hr]
      simp -dsimp -implicitDefEqProofs (disch := omega) [go_sem, -List.getD_eq_getElem?_getD, ite_yes]
      exact ⟨weakS_drop (by simp -dsimp -implicitDefEqProofs (disch := omega) [go_sem, -List.getD_eq_getElem?_getD, ite_yes, ht])⟩
  simp only [AWp_drop, AWp_drop0]
  refine AWp.step 4 [(0, .slice (some ⟨tc, 0, none⟩) n cc)] H (by kernel_rfl) (by kernel_rfl) ?_ ?_
  · simp -dsimp -implicitDefEqProofs (disch := omega) [go_sem, -List.getD_eq_getElem?_getD, ite_yes]
    refine ACall.via (drawParseAlarm_R h cc) ?_
    rintro _ _ ⟨l, rfl, l1, rfl⟩
    simp -dsimp -implicitDefEqProofs (disch := omega) [go_sem, -List.getD_eq_getElem?_getD, ite_yes]
    refine ACall.of (iParAl_A l (by omega) _) ?_
    have sp := parAl_spec (l := l)
    generalize parAl l = q at sp
    obtain ⟨p, rd⟩ := q
    simp -dsimp -implicitDefEqProofs (disch := omega) [go_sem, -List.getD_eq_getElem?_getD, ite_yes]
    refine ACall.of (iAlarmText_A p _) ?_
    cases rd
    · simp -dsimp -implicitDefEqProofs (disch := omega) [go_sem, -List.getD_eq_getElem?_getD, ite_yes]
      exact ⟨weakS_drop (by simp -dsimp -implicitDefEqProofs (disch := omega) [go_sem, -List.getD_eq_getElem?_getD, ite_yes, ht])⟩
    · obtain ⟨s1, s2⟩ := sp rfl
      simp only at s1 s2
      rw [s1, s2]
      simp -dsimp -implicitDefEqProofs (disch := omega) [go_sem, -List.getD_eq_getElem?_getD, ite_yes]
      exact ⟨weakS_drop (by simp -dsimp -implicitDefEqProofs (disch := omega) [go_sem, -List.getD_eq_getElem?_getD, ite_yes, ht])⟩
  simp only [AWp_drop, AWp_drop0]
  refine AWp.last (by kernel_rfl) ?_
  simp -dsimp -implicitDefEqProofs (disch := omega) [go_sem, -List.getD_eq_getElem?_getD, ite_yes]
  refine ACall.via (drawSeeAlarm_R h cc) ?_
  rintro _ _ ⟨l, node, rfl, l1, rfl⟩
  have hll : l.length ≤ 1048577 := by omega
  obtain ⟨r, hr⟩ := found_ex (0, 0, 0, false) (atNode node) l l.length 0 (by omega) (fun i hi => by omega) (by omega)
  cases hg : seeOk l r
  · simp -dsimp -implicitDefEqProofs (disch := omega) [go_sem, -List.getD_eq_getElem?_getD, ite_yes]
    refine ACall.of (iSee_bad l node r hr hll hg _ _ _ (Sl.of rfl)) ?_
    simp -dsimp -implicitDefEqProofs (disch := omega) [go_sem, -List.getD_eq_getElem?_getD, ite_yes]
    refine ACall.of (sSee_bad l node r hr hll hg _ _ _ (Sl.of rfl)) ?_
    simp -dsimp -implicitDefEqProofs (disch := omega) [go_sem, -List.getD_eq_getElem?_getD, ite_yes]
    refine ACall.of (vAlarms_nil _ _ _) ?_
    simp -dsimp -implicitDefEqProofs (disch := omega) [go_sem, -List.getD_eq_getElem?_getD, ite_yes]
    refine ACall.of (iUnseen_nil _) ?_
    simp -dsimp -implicitDefEqProofs (disch := omega) [go_sem, -List.getD_eq_getElem?_getD, ite_yes]
    refine ACall.of (sUnseen_nil _) ?_
    simp -dsimp -implicitDefEqProofs (disch := omega) [go_sem, -List.getD_eq_getElem?_getD, ite_yes]
    refine ACall.of (vInts_same [] (by simp) 0 0 _ _ _ (Sl.nth 2 rfl rfl) (Sl.nth 3 rfl rfl)) ?_
    simp -dsimp -implicitDefEqProofs (disch := omega) [go_sem, -List.getD_eq_getElem?_getD, ite_yes]
    exact fin_flat rfl rfl
  obtain ⟨g1, i, rfl, hi⟩ := see_at hr hg
  have ol := goodA_ord.1 g1
  have os := see_ord ol hi
  have gs := goodA_ord.2 os
  have hn : (l.getD i aD).1 = node := by
    cases hr with
    | yes i h1 h2 h3 => exact of_decide_eq_true h2
  have un := unseen_no ol hi hn
  have sl := seeL_length l i
  have ul := unN_length (seeL l i)
  have A1 := fun c H t hS => iSee_good l node i hr hi hll g1 c H t hS
  have A2 := fun c H t hS => sSee_good l node i hr hi hll g1 c H t hS
  generalize seeL l i = m at *
  have hml : m.length ≤ 1048577 := by omega
  have hul : (unN m).length ≤ 1048577 := by omega
  have A3 := fun c H t hS => iUnseen_good m hml c H t hS gs
  have A4 := fun c H t hS => sUnseen_good m hml c H t hS gs
  generalize unN m = u at *
  simp -dsimp -implicitDefEqProofs (disch := omega) [go_sem, -List.getD_eq_getElem?_getD, ite_yes]
  refine ACall.of (A1 _ _ _ (Sl.of rfl)) ?_
  simp -dsimp -implicitDefEqProofs (disch := omega) [go_sem, -List.getD_eq_getElem?_getD, ite_yes]
  refine ACall.of (A2 _ _ _ (Sl.of rfl)) ?_
  simp -dsimp -implicitDefEqProofs (disch := omega) [go_sem, -List.getD_eq_getElem?_getD, ite_yes]
  refine ACall.of (vAlarms_same m hml _ _ _ _ _ (Sl.nth 1 rfl rfl) (Sl.nth 2 rfl rfl)) ?_
  simp -dsimp -implicitDefEqProofs (disch := omega) [go_sem, -List.getD_eq_getElem?_getD, ite_yes]
  refine ACall.of (A3 _ _ _ (Sl.nth 1 rfl rfl)) ?_
  simp -dsimp -implicitDefEqProofs (disch := omega) [go_sem, -List.getD_eq_getElem?_getD, ite_yes]
  refine ACall.of (A4 _ _ _ (Sl.nth 1 rfl rfl)) ?_
  simp -dsimp -implicitDefEqProofs (disch := omega) [go_sem, -List.getD_eq_getElem?_getD, ite_yes]
  refine ACall.of (vInts_same u hul _ _ _ _ _ (Sl.nth 3 rfl rfl) (Sl.nth 4 rfl rfl)) ?_
  simp -dsimp -implicitDefEqProofs (disch := omega) [go_sem, -List.getD_eq_getElem?_getD, ite_yes]
  refine ACall.of (vHas_no u node un hul _ _ _ (Sl.nth 3 rfl rfl)) ?_
  simp -dsimp -implicitDefEqProofs (disch := omega) [go_sem, -List.getD_eq_getElem?_getD, ite_yes]
  exact fin_flat rfl rfl
end Go.Proofs.YthnnbgggfpempaaDoor
