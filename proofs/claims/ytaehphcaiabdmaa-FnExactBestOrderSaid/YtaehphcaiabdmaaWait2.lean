/- WaitingOf: both sides, and the law. -/
import Derived.Test.YtaehphcaiabdmaaWait
namespace Go.Proofs.Ytaehphcaiabdmaa
open Go.Am
set_option linter.unusedVariables false
set_option linter.unusedSimpArgs false
set_option maxRecDepth 100000
set_option maxHeartbeats 4000000

theorem isOrd_at {n : Int} {ps : List Pp} {l : List Vl} {src : Int} {a : List Int} (ho : isOrd n ps l src a = true) : askR n ps l src = true ∧ a.length = (shutL l).length := by
  unfold isOrd at ho
  rw [Bool.and_eq_true] at ho
  exact ⟨ho.1, (ordB_perm ho.2).length_eq⟩
/-- what WaitingOf hands out -/
def waitV (b : Bool) (w : Int) : Value := if b then .tuple #[.int .i64 w, .bool true] else .tuple #[.int .i64 0, .bool false]
def waitN (n : Int) (ps : List Pp) (l : List Vl) (src : Int) (a cu : List Int) : Int := waitTo n ps l src a cu a.length
theorem waitingOf_A (n : Int) (ps : List Pp) (cp : Nat) (l : List Vl) (c : Nat) (src : Int) (a : List Int) (hq : askR n ps l src = true) (ha : a.length ≤ 6) (d : Nat) (cu : List Int) (hcu : custOk n cu = true) (d2 : Nat) (H : Heap) (tp t u w : Nat) (hP : Sl ppE H tp ps) (hS : Sl vlE H t l) (hU : Sl nmE H u a) (hC : Sl nmE H w cu) :
    AFunC Try.prog 68 [netV n tp ps.length cp, .slice (some ⟨t, 0, none⟩) l.length c, .int .i64 src, .slice (some ⟨u, 0, none⟩) a.length d, .slice (some ⟨w, 0, none⟩) cu.length d2] H (.int .i64 (waitN n ps l src a cu)) H := by
  refine AFunC.of_body Try.func68 (by kernel_rfl) rfl (by kernel_rfl) (by simp [Try.ntmps68]) ?_
  have htp := hP.lt
  have ht := hS.lt
  have hu := hU.lt
  have hw := hC.lt
  obtain ⟨hg, hN, hl10, hsrc, hs6⟩ := askR_at hq
  have hn := hN.f_n
  have hpl := hN.f_len
  obtain ⟨hcl, hcr⟩ := custOk_at hcu
  simp -dsimp -implicitDefEqProofs (disch := omega) [go_sem, -List.getD_eq_getElem?_getD, ite_yes, htp, ht, hu, hw]
  refine ALoop.intro (ι := Nat) (fun k => k ≤ a.length) (fun k => [(1, .slice (some ⟨t, 0, none⟩) l.length c), (2, .int .i64 src), (3, .slice (some ⟨u, 0, none⟩) a.length d), (4, .slice (some ⟨w, 0, none⟩) cu.length d2), (5, .pointer (some ⟨H.length, 0, none⟩)), (11, .int .i64 (waitTo n ps l src a cu k)), (14, .int .i64 a.length), (15, .int .i64 k)]) (fun _ => H ++ [some ⟨[.int .i64 n, .slice (some ⟨tp, 0, none⟩) ps.length cp], true, 33, 1⟩]) (fun k => a.length - k) 0 (by omega) ?_ ?_
  · refine weakS_mk [some 0] rfl ?_ (by simp -dsimp -implicitDefEqProofs (disch := omega) [go_sem, -List.getD_eq_getElem?_getD, ite_yes, htp, ht, hu, hw, waitTo])
    simp -dsimp -implicitDefEqProofs (disch := omega) [go_sem, -List.getD_eq_getElem?_getD, ite_yes]
    exact wl_net htp
  intro k hk
  by_cases hlt : k < a.length
  · have e : waitTo n ps l src a cu (k + 1) = waitTo n ps l src a cu k + stepN n ps l src (a.take k) cu := rfl
    have b1 := waitTo_rng hn (ps := ps) (l := l) (src := src) (a := a) hcr k
    have b2 := stepN_rng hn (ps := ps) (l := l) (src := src) (ids := a.take k) hcr
    have A := fun (G : Heap) (z : Nat) (h1 : Sl ppE G tp ps) (h2 : Sl vlE G z (opL l (a.take k))) (h3 : Sl nmE G w cu) => harmOf_A n ps cp (opL l (a.take k)) (goodV_opL hg _) 0 src hsrc cu hcu d2 G tp z w h1 h2 h3
    simp only [opL_length] at A
    rw [show harmTo (wetR ps (opL l (a.take k)) src) cu n.toNat = stepN n ps l src (a.take k) cu from rfl] at A
    generalize stepN n ps l src (a.take k) cu = s at *
    generalize hW : waitTo n ps l src a cu k = W at *
    simp -dsimp -implicitDefEqProofs (disch := omega) [go_sem, -List.getD_eq_getElem?_getD, ite_yes, hlt, htp, ht, hu, hw]
    refine ADraw.any H (by kernel_rfl) (by first | exact SubH.refl | exact SubH.app | exact SubH.both (by simp [subL])) ?_
    refine AAny.takes (fuel := 5) (by kernel_rfl) (by kernel_rfl) [0, 2, 3, 4, 5, 7, 8] (by kernel_rfl) (by kernel_rfl) ?_
    simp -dsimp -implicitDefEqProofs (disch := omega) [go_sem, -List.getD_eq_getElem?_getD, ite_yes, htp, ht, hu, hw, hk]
    refine AAny.two 4 1 6 (by kernel_rfl) (by kernel_rfl) (by kernel_rfl) ?_ ?_
    · simp -dsimp -implicitDefEqProofs (disch := omega) [go_sem, -List.getD_eq_getElem?_getD, ite_yes, htp, ht, hu, hw, hk]
      first | refine AAt.of (by first | exact SubH.refl | exact SubH.app | exact SubH.both (by simp [subL])) ?_ | (refine ⟨?_, AAt.of (by first | exact SubH.refl | exact SubH.app | exact SubH.both (by simp [subL])) ?_⟩; · omega)
      refine AAny.one 3 6 (by kernel_rfl) (by kernel_rfl) (by kernel_rfl) ?_
      simp -dsimp -implicitDefEqProofs (disch := omega) [go_sem, -List.getD_eq_getElem?_getD, ite_yes, htp, ht, hu, hw, hk]
      refine ACall.of (openedT_A l (by omega) c a k hk (by omega) k _ t u hS.app hU.app) ?_
      simp -dsimp -implicitDefEqProofs (disch := omega) [go_sem, -List.getD_eq_getElem?_getD, ite_yes, htp, ht, hu, hw, hk]
      first | refine AAt.of (by first | exact SubH.refl | exact SubH.app | exact SubH.both (by simp [subL])) ?_ | (refine ⟨?_, AAt.of (by first | exact SubH.refl | exact SubH.app | exact SubH.both (by simp [subL])) ?_⟩; · omega)
      refine AAny.one 2 9 (by kernel_rfl) (by kernel_rfl) (by kernel_rfl) ?_
      simp -dsimp -implicitDefEqProofs (disch := omega) [go_sem, -List.getD_eq_getElem?_getD, ite_yes, htp, ht, hu, hw, hk]
      refine ACall.of (A _ (H.length + 1) hP.app (Sl.of1 rfl) hC.app) ?_
      simp -dsimp -implicitDefEqProofs (disch := omega) [go_sem, -List.getD_eq_getElem?_getD, ite_yes, htp, ht, hu, hw, hk]
      first | refine AAt.of (by first | exact SubH.refl | exact SubH.app | exact SubH.both (by simp [subL])) ?_ | (refine ⟨?_, AAt.of (by first | exact SubH.refl | exact SubH.app | exact SubH.both (by simp [subL])) ?_⟩; · omega)
      refine AAny.takes (fuel := 0) (by kernel_rfl) (by kernel_rfl) [10, 11] (by kernel_rfl) (by kernel_rfl) ?_
      simp -dsimp -implicitDefEqProofs (disch := omega) [go_sem, -List.getD_eq_getElem?_getD, ite_yes, htp, ht, hu, hw, hk]
      refine AAny.done (by kernel_rfl) ?_
      simp -dsimp -implicitDefEqProofs (disch := omega) [go_sem, -List.getD_eq_getElem?_getD, ite_yes, htp, ht, hu, hw, hk]
      refine LoopEnd.of (k + 1) (by omega) (by omega) (weakS_mk [some 0] rfl ?_ (by simp -dsimp -implicitDefEqProofs (disch := omega) [go_sem, -List.getD_eq_getElem?_getD, ite_yes, htp, ht, hu, hw, e]))
      simp -dsimp -implicitDefEqProofs (disch := omega) [go_sem, -List.getD_eq_getElem?_getD, ite_yes]
      exact wl_net htp
    · simp -dsimp -implicitDefEqProofs (disch := omega) [go_sem, -List.getD_eq_getElem?_getD, ite_yes, htp, ht, hu, hw, hk]
      refine ACall.of (openedT_A l (by omega) c a k hk (by omega) k _ t u hS.app hU.app) ?_
      simp -dsimp -implicitDefEqProofs (disch := omega) [go_sem, -List.getD_eq_getElem?_getD, ite_yes, htp, ht, hu, hw, hk]
      first | refine AAt.of (by first | exact SubH.refl | exact SubH.app | exact SubH.both (by simp [subL])) ?_ | (refine ⟨?_, AAt.of (by first | exact SubH.refl | exact SubH.app | exact SubH.both (by simp [subL])) ?_⟩; · omega)
      refine AAny.one 3 1 (by kernel_rfl) (by kernel_rfl) (by kernel_rfl) ?_
      simp -dsimp -implicitDefEqProofs (disch := omega) [go_sem, -List.getD_eq_getElem?_getD, ite_yes, htp, ht, hu, hw, hk]
      first | refine AAt.of (by first | exact SubH.refl | exact SubH.app | exact SubH.both (by simp [subL])) ?_ | (refine ⟨?_, AAt.of (by first | exact SubH.refl | exact SubH.app | exact SubH.both (by simp [subL])) ?_⟩; · omega)
      refine AAny.one 2 9 (by kernel_rfl) (by kernel_rfl) (by kernel_rfl) ?_
      simp -dsimp -implicitDefEqProofs (disch := omega) [go_sem, -List.getD_eq_getElem?_getD, ite_yes, htp, ht, hu, hw, hk]
      refine ACall.of (A _ (H.length + 1) hP.app (Sl.of1 rfl) hC.app) ?_
      simp -dsimp -implicitDefEqProofs (disch := omega) [go_sem, -List.getD_eq_getElem?_getD, ite_yes, htp, ht, hu, hw, hk]
      first | refine AAt.of (by first | exact SubH.refl | exact SubH.app | exact SubH.both (by simp [subL])) ?_ | (refine ⟨?_, AAt.of (by first | exact SubH.refl | exact SubH.app | exact SubH.both (by simp [subL])) ?_⟩; · omega)
      refine AAny.takes (fuel := 0) (by kernel_rfl) (by kernel_rfl) [10, 11] (by kernel_rfl) (by kernel_rfl) ?_
      simp -dsimp -implicitDefEqProofs (disch := omega) [go_sem, -List.getD_eq_getElem?_getD, ite_yes, htp, ht, hu, hw, hk]
      refine AAny.done (by kernel_rfl) ?_
      simp -dsimp -implicitDefEqProofs (disch := omega) [go_sem, -List.getD_eq_getElem?_getD, ite_yes, htp, ht, hu, hw, hk]
      refine LoopEnd.of (k + 1) (by omega) (by omega) (weakS_mk [some 0] rfl ?_ (by simp -dsimp -implicitDefEqProofs (disch := omega) [go_sem, -List.getD_eq_getElem?_getD, ite_yes, htp, ht, hu, hw, e]))
      simp -dsimp -implicitDefEqProofs (disch := omega) [go_sem, -List.getD_eq_getElem?_getD, ite_yes]
      exact wl_net htp
  · obtain rfl : k = a.length := by omega
    simp -dsimp -implicitDefEqProofs (disch := omega) [go_sem, -List.getD_eq_getElem?_getD, ite_yes, hlt]
    exact fin_flat rfl rfl
theorem iWaitingOf_A (n : Int) (ps : List Pp) (hps : ps.length ≤ 1048577) (cp : Nat) (l : List Vl) (hl : l.length ≤ 1048577) (c : Nat) (src : Int) (a : List Int) (ha : a.length ≤ 1048577) (d : Nat) (cu : List Int) (hcu : cu.length ≤ 1048577) (d2 : Nat) (H : Heap) (tp t u w : Nat) (hP : Sl ppE H tp ps) (hS : Sl vlE H t l) (hU : Sl nmE H u a) (hC : Sl nmE H w cu) :
    AFunC Try.prog 36 [netV n tp ps.length cp, .slice (some ⟨t, 0, none⟩) l.length c, .int .i64 src, .slice (some ⟨u, 0, none⟩) a.length d, .slice (some ⟨w, 0, none⟩) cu.length d2] H (waitV (isOrd n ps l src a && custOk n cu) (waitN n ps l src a cu)) H := by
  refine AFunC.of_body Try.func36 (by kernel_rfl) rfl (by kernel_rfl) (by simp [Try.ntmps36]) ?_
  have htp := hP.lt
  have ht := hS.lt
  have hu := hU.lt
  have hw := hC.lt
  simp -dsimp -implicitDefEqProofs (disch := omega) [go_sem, -List.getD_eq_getElem?_getD, ite_yes, htp, ht, hu, hw]
  refine ACall.of (iIsOrder_A n ps hps cp l hl c src a ha d _ tp t u hP.app hS.app hU.app) ?_
  cases ho : isOrd n ps l src a
  · simp -dsimp -implicitDefEqProofs (disch := omega) [go_sem, -List.getD_eq_getElem?_getD, ite_yes]
    exact fin_flat rfl rfl
  simp -dsimp -implicitDefEqProofs (disch := omega) [go_sem, -List.getD_eq_getElem?_getD, ite_yes, htp, ht, hu, hw]
  refine ACall.of (areCustomers_A n tp ps.length cp cu hcu d2 _ w (by simp -dsimp -implicitDefEqProofs (disch := omega) [go_sem, -List.getD_eq_getElem?_getD, ite_yes, htp]) hC.app) ?_
  cases hc : custOk n cu
  · simp -dsimp -implicitDefEqProofs (disch := omega) [go_sem, -List.getD_eq_getElem?_getD, ite_yes]
    exact fin_flat rfl rfl
  obtain ⟨hq, hal⟩ := isOrd_at ho
  have h6 := (askR_at hq).2.2.2.2
  simp -dsimp -implicitDefEqProofs (disch := omega) [go_sem, -List.getD_eq_getElem?_getD, ite_yes, htp, ht, hu, hw]
  refine ACall.of (waitingOf_A n ps cp l c src a hq (by omega) d cu hc d2 _ tp t u w hP.app hS.app hU.app hC.app) ?_
  simp -dsimp -implicitDefEqProofs (disch := omega) [go_sem, -List.getD_eq_getElem?_getD, ite_yes]
  exact fin_flat rfl rfl
theorem sWaitingOf_A (n : Int) (ps : List Pp) (hps : ps.length ≤ 1048577) (cp : Nat) (l : List Vl) (hl : l.length ≤ 1048577) (c : Nat) (src : Int) (a : List Int) (ha : a.length ≤ 1048577) (d : Nat) (cu : List Int) (hcu : cu.length ≤ 1048577) (d2 : Nat) (H : Heap) (tp t u w : Nat) (hP : Sl ppE H tp ps) (hS : Sl vlE H t l) (hU : Sl nmE H u a) (hC : Sl nmE H w cu) :
    AFunC Try.prog 35 [netV n tp ps.length cp, .slice (some ⟨t, 0, none⟩) l.length c, .int .i64 src, .slice (some ⟨u, 0, none⟩) a.length d, .slice (some ⟨w, 0, none⟩) cu.length d2] H (waitV (isOrd n ps l src a && custOk n cu) (waitN n ps l src a cu)) H := by
  refine AFunC.of_body Try.func35 (by kernel_rfl) rfl (by kernel_rfl) (by simp [Try.ntmps35]) ?_
  have htp := hP.lt
  have ht := hS.lt
  have hu := hU.lt
  have hw := hC.lt
  simp -dsimp -implicitDefEqProofs (disch := omega) [go_sem, -List.getD_eq_getElem?_getD, ite_yes, htp, ht, hu, hw]
  refine ACall.of (l18Order_A n ps hps cp l hl c src a ha d _ tp t u hP.app hS.app hU.app) ?_
  cases ho : isOrd n ps l src a
  · simp -dsimp -implicitDefEqProofs (disch := omega) [go_sem, -List.getD_eq_getElem?_getD, ite_yes]
    exact fin_flat rfl rfl
  simp -dsimp -implicitDefEqProofs (disch := omega) [go_sem, -List.getD_eq_getElem?_getD, ite_yes, htp, ht, hu, hw]
  refine ACall.of (l5Customers_A n tp ps.length cp cu hcu d2 _ w (by simp -dsimp -implicitDefEqProofs (disch := omega) [go_sem, -List.getD_eq_getElem?_getD, ite_yes, htp]) hC.app) ?_
  cases hc : custOk n cu
  · simp -dsimp -implicitDefEqProofs (disch := omega) [go_sem, -List.getD_eq_getElem?_getD, ite_yes]
    exact fin_flat rfl rfl
  obtain ⟨hq, hal⟩ := isOrd_at ho
  obtain ⟨hg, hN, hl10, hsrc, hs6⟩ := askR_at hq
  have hn := hN.f_n
  have hpl := hN.f_len
  obtain ⟨hcl, hcr⟩ := custOk_at hc
  simp -dsimp -implicitDefEqProofs (disch := omega) [go_sem, -List.getD_eq_getElem?_getD, ite_yes, htp, ht, hu, hw]
  refine ALoop.intro (ι := Nat) (fun k => k ≤ a.length) (fun k => [(1, .slice (some ⟨t, 0, none⟩) l.length c), (2, .int .i64 src), (3, .slice (some ⟨u, 0, none⟩) a.length d), (4, .slice (some ⟨w, 0, none⟩) cu.length d2), (5, .pointer (some ⟨H.length, 0, none⟩)), (12, .int .i64 (waitTo n ps l src a cu k)), (13, .int .i64 k)]) (fun _ => H ++ [some ⟨[.int .i64 n, .slice (some ⟨tp, 0, none⟩) ps.length cp], true, 33, 1⟩]) (fun k => a.length - k) 0 (by omega) ?_ ?_
  · refine weakS_mk [some 0] rfl ?_ (by simp -dsimp -implicitDefEqProofs (disch := omega) [go_sem, -List.getD_eq_getElem?_getD, ite_yes, htp, ht, hu, hw, waitTo])
    simp -dsimp -implicitDefEqProofs (disch := omega) [go_sem, -List.getD_eq_getElem?_getD, ite_yes]
    exact wl_net htp
  intro k hk
  by_cases hlt : k < a.length
  · have e : waitTo n ps l src a cu (k + 1) = waitTo n ps l src a cu k + stepN n ps l src (a.take k) cu := rfl
    have b1 := waitTo_rng hn (ps := ps) (l := l) (src := src) (a := a) hcr k
    have b2 := stepN_rng hn (ps := ps) (l := l) (src := src) (ids := a.take k) hcr
    have A := fun (G : Heap) (h1 : Sl ppE G tp ps) (h2 : Sl vlE G t l) (h3 : IdS G u 0 (a.take k)) (h4 : Sl nmE G w cu) => l18Step_A n ps hN cp l hl c src hsrc (a.take k) (by rw [List.length_take]; omega) k 0 cu hc d2 G tp t u w h1 h2 h3 h4
    simp only [List.length_take_of_le hk] at A
    generalize stepN n ps l src (a.take k) cu = s at *
    generalize hW : waitTo n ps l src a cu k = W at *
    simp -dsimp -implicitDefEqProofs (disch := omega) [go_sem, -List.getD_eq_getElem?_getD, ite_yes, hlt, htp, ht, hu, hw]
    refine ADraw.any H (by kernel_rfl) (by first | exact SubH.refl | exact SubH.app | exact SubH.both (by simp [subL])) ?_
    refine AAny.takes (fuel := 4) (by kernel_rfl) (by kernel_rfl) [0, 2, 3, 4, 5, 6, 7] (by kernel_rfl) (by kernel_rfl) ?_
    simp -dsimp -implicitDefEqProofs (disch := omega) [go_sem, -List.getD_eq_getElem?_getD, ite_yes, htp, ht, hu, hw, hk]
    refine AAny.one 3 1 (by kernel_rfl) (by kernel_rfl) (by kernel_rfl) ?_
    simp -dsimp -implicitDefEqProofs (disch := omega) [go_sem, -List.getD_eq_getElem?_getD, ite_yes, htp, ht, hu, hw, hk]
    first | refine AAt.of (by first | exact SubH.refl | exact SubH.app | exact SubH.both (by simp [subL])) ?_ | (refine ⟨?_, AAt.of (by first | exact SubH.refl | exact SubH.app | exact SubH.both (by simp [subL])) ?_⟩; · omega)
    refine AAny.one 2 8 (by kernel_rfl) (by kernel_rfl) (by kernel_rfl) ?_
    simp -dsimp -implicitDefEqProofs (disch := omega) [go_sem, -List.getD_eq_getElem?_getD, ite_yes, htp, ht, hu, hw, hk]
    refine ACall.of (A _ hP.app hS.app (IdS.of (hU.app.take k)) hC.app) ?_
    simp -dsimp -implicitDefEqProofs (disch := omega) [go_sem, -List.getD_eq_getElem?_getD, ite_yes, htp, ht, hu, hw, hk]
    first | refine AAt.of (by first | exact SubH.refl | exact SubH.app | exact SubH.both (by simp [subL])) ?_ | (refine ⟨?_, AAt.of (by first | exact SubH.refl | exact SubH.app | exact SubH.both (by simp [subL])) ?_⟩; · omega)
    refine AAny.takes (fuel := 0) (by kernel_rfl) (by kernel_rfl) [9, 10] (by kernel_rfl) (by kernel_rfl) ?_
    simp -dsimp -implicitDefEqProofs (disch := omega) [go_sem, -List.getD_eq_getElem?_getD, ite_yes, htp, ht, hu, hw, hk]
    refine AAny.done (by kernel_rfl) ?_
    simp -dsimp -implicitDefEqProofs (disch := omega) [go_sem, -List.getD_eq_getElem?_getD, ite_yes, htp, ht, hu, hw, hk]
    refine LoopEnd.of (k + 1) (by omega) (by omega) (weakS_mk [some 0] rfl ?_ (by simp -dsimp -implicitDefEqProofs (disch := omega) [go_sem, -List.getD_eq_getElem?_getD, ite_yes, htp, ht, hu, hw, e]))
    simp -dsimp -implicitDefEqProofs (disch := omega) [go_sem, -List.getD_eq_getElem?_getD, ite_yes]
    exact wl_net htp
  · obtain rfl : k = a.length := by omega
    simp -dsimp -implicitDefEqProofs (disch := omega) [go_sem, -List.getD_eq_getElem?_getD, ite_yes, hlt]
    exact fin_flat rfl rfl
theorem waitV_flat (b : Bool) (w : Int) : ∃ (x : Int) (y : Bool), waitV b w = .tuple #[.int .i64 x, .bool y] := by
  unfold waitV
  cases b
  · exact ⟨0, false, rfl⟩
  · exact ⟨w, true, rfl⟩
theorem lawWaitingOf_A (n : Int) (ps : List Pp) (hl0 : ps.length ≤ 9223372036854775807) (c0 : Nat) (l : List Vl) (hl1 : l.length ≤ 9223372036854775807) (c1 : Nat) (src : Int) (a : List Nm) (hl2 : a.length ≤ 9223372036854775807) (c2 : Nat) (cu : List Nm) (hl3 : cu.length ≤ 9223372036854775807) (c3 : Nat) (H : Heap) (t0 : Nat) (hS0 : Sl ppE H t0 ps) (t1 : Nat) (hS1 : Sl vlE H t1 l) (t2 : Nat) (hS2 : Sl nmE H t2 a) (t3 : Nat) (hS3 : Sl nmE H t3 cu) :
    AFunC Try.prog 9 [netV n t0 ps.length c0, .slice (some ⟨t1, 0, none⟩) l.length c1, .int .i64 src, .slice (some ⟨t2, 0, none⟩) a.length c2, .slice (some ⟨t3, 0, none⟩) cu.length c3] H (.bool true) H := by
  refine AFunC.of_body Try.func9 (by kernel_rfl) rfl (by kernel_rfl) (by simp [Try.ntmps9]) ?_
  have ht0 := hS0.lt
  have ht1 := hS1.lt
  have ht2 := hS2.lt
  have ht3 := hS3.lt
  simp -dsimp -implicitDefEqProofs (disch := omega) [go_sem, -List.getD_eq_getElem?_getD, ite_yes, ht0, ht1, ht2, ht3]
  refine AIf.of (fun h => ?_) (fun h => ?_)
  · simp -dsimp -implicitDefEqProofs (disch := omega) [go_sem, -List.getD_eq_getElem?_getD, ite_yes]
    first | exact fin_flat0 rfl rfl | exact fin_flat rfl rfl
  have hlen2 : a.length ≤ 1048577 := by
    have := of_decide_eq_false h
    omega
  simp -dsimp -implicitDefEqProofs (disch := omega) [go_sem, -List.getD_eq_getElem?_getD, ite_yes, ht0, ht1, ht2, ht3]
  refine AIf.of (fun h => ?_) (fun h => ?_)
  · simp -dsimp -implicitDefEqProofs (disch := omega) [go_sem, -List.getD_eq_getElem?_getD, ite_yes]
    first | exact fin_flat0 rfl rfl | exact fin_flat rfl rfl
  have hlen3 : cu.length ≤ 1048577 := by
    have := of_decide_eq_false h
    omega
  simp -dsimp -implicitDefEqProofs (disch := omega) [go_sem, -List.getD_eq_getElem?_getD, ite_yes, ht0, ht1, ht2, ht3]
  refine ACall.of (szNet_A n ps.length c0 (by omega) _ (by omega) (by omega) t0 _) ?_
  simp -dsimp -implicitDefEqProofs (disch := omega) [go_sem, -List.getD_eq_getElem?_getD, ite_yes, ht0, ht1, ht2, ht3]
  refine AIf.of (fun h => ?_) (fun h => ?_)
  · simp -dsimp -implicitDefEqProofs (disch := omega) [go_sem, -List.getD_eq_getElem?_getD, ite_yes]
    first | exact fin_flat0 rfl rfl | exact fin_flat rfl rfl
  have hlen0 : ps.length ≤ 1048577 := by
    have := szPp_len (by simpa using h)
    omega
  simp -dsimp -implicitDefEqProofs (disch := omega) [go_sem, -List.getD_eq_getElem?_getD, ite_yes, ht0, ht1, ht2, ht3]
  have hz0 : 0 ≤ szPp ps.length 1048576 ∧ szPp ps.length 1048576 ≤ 1048576 := szPp_rng (by simpa using h) (by omega)
  refine ACall.of (szVl_A l.length c1 (by omega) _ (by omega) (by omega) t1 _) ?_
  simp -dsimp -implicitDefEqProofs (disch := omega) [go_sem, -List.getD_eq_getElem?_getD, ite_yes, ht0, ht1, ht2, ht3]
  refine AIf.of (fun h => ?_) (fun h => ?_)
  · simp -dsimp -implicitDefEqProofs (disch := omega) [go_sem, -List.getD_eq_getElem?_getD, ite_yes]
    first | exact fin_flat0 rfl rfl | exact fin_flat rfl rfl
  have hlen1 : l.length ≤ 1048577 := by
    have := szVl_len (by simpa using h)
    omega
  simp -dsimp -implicitDefEqProofs (disch := omega) [go_sem, -List.getD_eq_getElem?_getD, ite_yes, ht0, ht1, ht2, ht3]
  obtain ⟨x, y, ev⟩ := waitV_flat (isOrd n ps l src a && custOk n cu) (waitN n ps l src a cu)
  refine ACall.of (toNet_A n ps hlen0 c0 _ t0 hS0.app) ?_
  simp -dsimp -implicitDefEqProofs (disch := omega) [go_sem, -List.getD_eq_getElem?_getD, ite_yes, ht0, ht1, ht2, ht3]
  refine ACall.of (toVlS_A l hlen1 c1 _ t1 hS1.app) ?_
  simp -dsimp -implicitDefEqProofs (disch := omega) [go_sem, -List.getD_eq_getElem?_getD, ite_yes, ht0, ht1, ht2, ht3]
  refine ACall.of (toNmS_A a hlen2 c2 _ t2 hS2.app) ?_
  simp -dsimp -implicitDefEqProofs (disch := omega) [go_sem, -List.getD_eq_getElem?_getD, ite_yes, ht0, ht1, ht2, ht3]
  refine ACall.of (toNmS_A cu hlen3 c3 _ t3 hS3.app) ?_
  simp -dsimp -implicitDefEqProofs (disch := omega) [go_sem, -List.getD_eq_getElem?_getD, ite_yes, ht0, ht1, ht2, ht3]
  refine ACall.of (ev ▸ sWaitingOf_A n ps hlen0 _ l hlen1 _ src a hlen2 _ cu hlen3 _ _ _ _ _ _ (Sl.nth 1 rfl rfl) (Sl.nth 2 rfl rfl) (Sl.nth 3 rfl rfl) (Sl.nth 4 rfl rfl)) ?_
  simp -dsimp -implicitDefEqProofs (disch := omega) [go_sem, -List.getD_eq_getElem?_getD, ite_yes, ht0, ht1, ht2, ht3]
  refine ACall.of (toNet_A n ps hlen0 c0 _ t0 hS0.app) ?_
  simp -dsimp -implicitDefEqProofs (disch := omega) [go_sem, -List.getD_eq_getElem?_getD, ite_yes, ht0, ht1, ht2, ht3]
  refine ACall.of (toVlS_A l hlen1 c1 _ t1 hS1.app) ?_
  simp -dsimp -implicitDefEqProofs (disch := omega) [go_sem, -List.getD_eq_getElem?_getD, ite_yes, ht0, ht1, ht2, ht3]
  refine ACall.of (toNmS_A a hlen2 c2 _ t2 hS2.app) ?_
  simp -dsimp -implicitDefEqProofs (disch := omega) [go_sem, -List.getD_eq_getElem?_getD, ite_yes, ht0, ht1, ht2, ht3]
  refine ACall.of (toNmS_A cu hlen3 c3 _ t3 hS3.app) ?_
  simp -dsimp -implicitDefEqProofs (disch := omega) [go_sem, -List.getD_eq_getElem?_getD, ite_yes, ht0, ht1, ht2, ht3]
  refine ACall.of (ev ▸ iWaitingOf_A n ps hlen0 _ l hlen1 _ src a hlen2 _ cu hlen3 _ _ _ _ _ _ (Sl.nth 5 rfl rfl) (Sl.nth 7 rfl rfl) (Sl.nth 8 rfl rfl) (Sl.nth 9 rfl rfl)) ?_
  simp -dsimp -implicitDefEqProofs (disch := omega) [go_sem, -List.getD_eq_getElem?_getD, ite_yes, ht0, ht1, ht2, ht3]
  refine ADraw.any _ (by kernel_rfl) (SubH.refl) ?_
  refine AAny.two 4 0 1 (by kernel_rfl) (by kernel_rfl) (by kernel_rfl) ?_ ?_
  · simp -dsimp -implicitDefEqProofs (disch := omega) [go_sem, -List.getD_eq_getElem?_getD, ite_yes, ht0, ht1, ht2, ht3]
    first | refine AAt.of (by first | exact SubH.refl | exact SubH.app | exact SubH.both (by simp [subL])) ?_ | (refine ⟨?_, AAt.of (by first | exact SubH.refl | exact SubH.app | exact SubH.both (by simp [subL])) ?_⟩; · omega)
    refine AAny.one 3 1 (by kernel_rfl) (by kernel_rfl) (by kernel_rfl) ?_
    simp -dsimp -implicitDefEqProofs (disch := omega) [go_sem, -List.getD_eq_getElem?_getD, ite_yes, ht0, ht1, ht2, ht3]
    first | refine AAt.of (by first | exact SubH.refl | exact SubH.app | exact SubH.both (by simp [subL])) ?_ | (refine ⟨?_, AAt.of (by first | exact SubH.refl | exact SubH.app | exact SubH.both (by simp [subL])) ?_⟩; · omega)
    refine AAny.one 2 2 (by kernel_rfl) (by kernel_rfl) (by kernel_rfl) ?_
    simp -dsimp -implicitDefEqProofs (disch := omega) [go_sem, -List.getD_eq_getElem?_getD, ite_yes, ht0, ht1, ht2, ht3]
    refine ACall.of (toNet_A n ps hlen0 c0 _ t0 hS0.app) ?_
    simp -dsimp -implicitDefEqProofs (disch := omega) [go_sem, -List.getD_eq_getElem?_getD, ite_yes, ht0, ht1, ht2, ht3]
    first | refine AAt.of (by first | exact SubH.refl | exact SubH.app | exact SubH.both (by simp [subL])) ?_ | (refine ⟨?_, AAt.of (by first | exact SubH.refl | exact SubH.app | exact SubH.both (by simp [subL])) ?_⟩; · omega)
    refine AAny.one 1 3 (by kernel_rfl) (by kernel_rfl) (by kernel_rfl) ?_
    simp -dsimp -implicitDefEqProofs (disch := omega) [go_sem, -List.getD_eq_getElem?_getD, ite_yes, ht0, ht1, ht2, ht3]
    refine ACall.of (eqNet_A n n ps ps hlen0 hlen0 _ _ _ _ _ (Sl.nth 5 rfl rfl) (Sl.nth 10 rfl rfl)) ?_
    simp -dsimp -implicitDefEqProofs (disch := omega) [go_sem, -List.getD_eq_getElem?_getD, ite_yes, ht0, ht1, ht2, ht3]
    first | refine AAt.of (by first | exact SubH.refl | exact SubH.app | exact SubH.both (by simp [subL])) ?_ | (refine ⟨?_, AAt.of (by first | exact SubH.refl | exact SubH.app | exact SubH.both (by simp [subL])) ?_⟩; · omega)
    refine AAny.takes (fuel := 0) (by kernel_rfl) (by kernel_rfl) [4] (by kernel_rfl) (by kernel_rfl) ?_
    simp -dsimp -implicitDefEqProofs (disch := omega) [go_sem, -List.getD_eq_getElem?_getD, ite_yes, ht0, ht1, ht2, ht3]
    refine AAny.done (by kernel_rfl) ?_
    simp -dsimp -implicitDefEqProofs (disch := omega) [go_sem, -List.getD_eq_getElem?_getD, ite_yes, ht0, ht1, ht2, ht3]
    refine ACall.of (toVlS_A l hlen1 c1 _ t1 hS1.app) ?_
    simp -dsimp -implicitDefEqProofs (disch := omega) [go_sem, -List.getD_eq_getElem?_getD, ite_yes, ht0, ht1, ht2, ht3]
    refine ACall.of (eqVlS_A l l hlen1 hlen1 _ _ _ _ _ (Sl.nth 7 rfl rfl) (Sl.nth 11 rfl rfl)) ?_
    simp -dsimp -implicitDefEqProofs (disch := omega) [go_sem, -List.getD_eq_getElem?_getD, ite_yes, ht0, ht1, ht2, ht3]
    refine ACall.of (toNmS_A a hlen2 c2 _ t2 hS2.app) ?_
    simp -dsimp -implicitDefEqProofs (disch := omega) [go_sem, -List.getD_eq_getElem?_getD, ite_yes, ht0, ht1, ht2, ht3]
    refine ACall.of (eqNmS_A a a hlen2 hlen2 _ _ _ _ _ (Sl.nth 8 rfl rfl) (Sl.nth 12 rfl rfl)) ?_
    simp -dsimp -implicitDefEqProofs (disch := omega) [go_sem, -List.getD_eq_getElem?_getD, ite_yes, ht0, ht1, ht2, ht3]
    refine ACall.of (toNmS_A cu hlen3 c3 _ t3 hS3.app) ?_
    simp -dsimp -implicitDefEqProofs (disch := omega) [go_sem, -List.getD_eq_getElem?_getD, ite_yes, ht0, ht1, ht2, ht3]
    refine ACall.of (eqNmS_A cu cu hlen3 hlen3 _ _ _ _ _ (Sl.nth 9 rfl rfl) (Sl.nth 13 rfl rfl)) ?_
    simp -dsimp -implicitDefEqProofs (disch := omega) [go_sem, -List.getD_eq_getElem?_getD, ite_yes, ht0, ht1, ht2, ht3]
    exact fin_flat rfl rfl
  · simp -dsimp -implicitDefEqProofs (disch := omega) [go_sem, -List.getD_eq_getElem?_getD, ite_yes, ht0, ht1, ht2, ht3]
    first | refine AAt.of (by first | exact SubH.refl | exact SubH.app | exact SubH.both (by simp [subL])) ?_ | (refine ⟨?_, AAt.of (by first | exact SubH.refl | exact SubH.app | exact SubH.both (by simp [subL])) ?_⟩; · omega)
    refine AAny.two 3 0 2 (by kernel_rfl) (by kernel_rfl) (by kernel_rfl) ?_ ?_
    · simp -dsimp -implicitDefEqProofs (disch := omega) [go_sem, -List.getD_eq_getElem?_getD, ite_yes, ht0, ht1, ht2, ht3]
      first | refine AAt.of (by first | exact SubH.refl | exact SubH.app | exact SubH.both (by simp [subL])) ?_ | (refine ⟨?_, AAt.of (by first | exact SubH.refl | exact SubH.app | exact SubH.both (by simp [subL])) ?_⟩; · omega)
      refine AAny.one 2 2 (by kernel_rfl) (by kernel_rfl) (by kernel_rfl) ?_
      simp -dsimp -implicitDefEqProofs (disch := omega) [go_sem, -List.getD_eq_getElem?_getD, ite_yes, ht0, ht1, ht2, ht3]
      refine ACall.of (toNet_A n ps hlen0 c0 _ t0 hS0.app) ?_
      simp -dsimp -implicitDefEqProofs (disch := omega) [go_sem, -List.getD_eq_getElem?_getD, ite_yes, ht0, ht1, ht2, ht3]
      first | refine AAt.of (by first | exact SubH.refl | exact SubH.app | exact SubH.both (by simp [subL])) ?_ | (refine ⟨?_, AAt.of (by first | exact SubH.refl | exact SubH.app | exact SubH.both (by simp [subL])) ?_⟩; · omega)
      refine AAny.one 1 3 (by kernel_rfl) (by kernel_rfl) (by kernel_rfl) ?_
      simp -dsimp -implicitDefEqProofs (disch := omega) [go_sem, -List.getD_eq_getElem?_getD, ite_yes, ht0, ht1, ht2, ht3]
      refine ACall.of (eqNet_A n n ps ps hlen0 hlen0 _ _ _ _ _ (Sl.nth 5 rfl rfl) (Sl.nth 10 rfl rfl)) ?_
      simp -dsimp -implicitDefEqProofs (disch := omega) [go_sem, -List.getD_eq_getElem?_getD, ite_yes, ht0, ht1, ht2, ht3]
      first | refine AAt.of (by first | exact SubH.refl | exact SubH.app | exact SubH.both (by simp [subL])) ?_ | (refine ⟨?_, AAt.of (by first | exact SubH.refl | exact SubH.app | exact SubH.both (by simp [subL])) ?_⟩; · omega)
      refine AAny.takes (fuel := 0) (by kernel_rfl) (by kernel_rfl) [4] (by kernel_rfl) (by kernel_rfl) ?_
      simp -dsimp -implicitDefEqProofs (disch := omega) [go_sem, -List.getD_eq_getElem?_getD, ite_yes, ht0, ht1, ht2, ht3]
      refine AAny.done (by kernel_rfl) ?_
      simp -dsimp -implicitDefEqProofs (disch := omega) [go_sem, -List.getD_eq_getElem?_getD, ite_yes, ht0, ht1, ht2, ht3]
      refine ACall.of (toVlS_A l hlen1 c1 _ t1 hS1.app) ?_
      simp -dsimp -implicitDefEqProofs (disch := omega) [go_sem, -List.getD_eq_getElem?_getD, ite_yes, ht0, ht1, ht2, ht3]
      refine ACall.of (eqVlS_A l l hlen1 hlen1 _ _ _ _ _ (Sl.nth 7 rfl rfl) (Sl.nth 11 rfl rfl)) ?_
      simp -dsimp -implicitDefEqProofs (disch := omega) [go_sem, -List.getD_eq_getElem?_getD, ite_yes, ht0, ht1, ht2, ht3]
      refine ACall.of (toNmS_A a hlen2 c2 _ t2 hS2.app) ?_
      simp -dsimp -implicitDefEqProofs (disch := omega) [go_sem, -List.getD_eq_getElem?_getD, ite_yes, ht0, ht1, ht2, ht3]
      refine ACall.of (eqNmS_A a a hlen2 hlen2 _ _ _ _ _ (Sl.nth 8 rfl rfl) (Sl.nth 12 rfl rfl)) ?_
      simp -dsimp -implicitDefEqProofs (disch := omega) [go_sem, -List.getD_eq_getElem?_getD, ite_yes, ht0, ht1, ht2, ht3]
      refine ACall.of (toNmS_A cu hlen3 c3 _ t3 hS3.app) ?_
      simp -dsimp -implicitDefEqProofs (disch := omega) [go_sem, -List.getD_eq_getElem?_getD, ite_yes, ht0, ht1, ht2, ht3]
      refine ACall.of (eqNmS_A cu cu hlen3 hlen3 _ _ _ _ _ (Sl.nth 9 rfl rfl) (Sl.nth 13 rfl rfl)) ?_
      simp -dsimp -implicitDefEqProofs (disch := omega) [go_sem, -List.getD_eq_getElem?_getD, ite_yes, ht0, ht1, ht2, ht3]
      exact fin_flat rfl rfl
    · simp -dsimp -implicitDefEqProofs (disch := omega) [go_sem, -List.getD_eq_getElem?_getD, ite_yes, ht0, ht1, ht2, ht3]
      refine ACall.of (toNet_A n ps hlen0 c0 _ t0 hS0.app) ?_
      simp -dsimp -implicitDefEqProofs (disch := omega) [go_sem, -List.getD_eq_getElem?_getD, ite_yes, ht0, ht1, ht2, ht3]
      first | refine AAt.of (by first | exact SubH.refl | exact SubH.app | exact SubH.both (by simp [subL])) ?_ | (refine ⟨?_, AAt.of (by first | exact SubH.refl | exact SubH.app | exact SubH.both (by simp [subL])) ?_⟩; · omega)
      refine AAny.one 2 0 (by kernel_rfl) (by kernel_rfl) (by kernel_rfl) ?_
      simp -dsimp -implicitDefEqProofs (disch := omega) [go_sem, -List.getD_eq_getElem?_getD, ite_yes, ht0, ht1, ht2, ht3]
      first | refine AAt.of (by first | exact SubH.refl | exact SubH.app | exact SubH.both (by simp [subL])) ?_ | (refine ⟨?_, AAt.of (by first | exact SubH.refl | exact SubH.app | exact SubH.both (by simp [subL])) ?_⟩; · omega)
      refine AAny.one 1 3 (by kernel_rfl) (by kernel_rfl) (by kernel_rfl) ?_
      simp -dsimp -implicitDefEqProofs (disch := omega) [go_sem, -List.getD_eq_getElem?_getD, ite_yes, ht0, ht1, ht2, ht3]
      refine ACall.of (eqNet_A n n ps ps hlen0 hlen0 _ _ _ _ _ (Sl.nth 5 rfl rfl) (Sl.nth 10 rfl rfl)) ?_
      simp -dsimp -implicitDefEqProofs (disch := omega) [go_sem, -List.getD_eq_getElem?_getD, ite_yes, ht0, ht1, ht2, ht3]
      first | refine AAt.of (by first | exact SubH.refl | exact SubH.app | exact SubH.both (by simp [subL])) ?_ | (refine ⟨?_, AAt.of (by first | exact SubH.refl | exact SubH.app | exact SubH.both (by simp [subL])) ?_⟩; · omega)
      refine AAny.takes (fuel := 0) (by kernel_rfl) (by kernel_rfl) [4] (by kernel_rfl) (by kernel_rfl) ?_
      simp -dsimp -implicitDefEqProofs (disch := omega) [go_sem, -List.getD_eq_getElem?_getD, ite_yes, ht0, ht1, ht2, ht3]
      refine AAny.done (by kernel_rfl) ?_
      simp -dsimp -implicitDefEqProofs (disch := omega) [go_sem, -List.getD_eq_getElem?_getD, ite_yes, ht0, ht1, ht2, ht3]
      refine ACall.of (toVlS_A l hlen1 c1 _ t1 hS1.app) ?_
      simp -dsimp -implicitDefEqProofs (disch := omega) [go_sem, -List.getD_eq_getElem?_getD, ite_yes, ht0, ht1, ht2, ht3]
      refine ACall.of (eqVlS_A l l hlen1 hlen1 _ _ _ _ _ (Sl.nth 7 rfl rfl) (Sl.nth 11 rfl rfl)) ?_
      simp -dsimp -implicitDefEqProofs (disch := omega) [go_sem, -List.getD_eq_getElem?_getD, ite_yes, ht0, ht1, ht2, ht3]
      refine ACall.of (toNmS_A a hlen2 c2 _ t2 hS2.app) ?_
      simp -dsimp -implicitDefEqProofs (disch := omega) [go_sem, -List.getD_eq_getElem?_getD, ite_yes, ht0, ht1, ht2, ht3]
      refine ACall.of (eqNmS_A a a hlen2 hlen2 _ _ _ _ _ (Sl.nth 8 rfl rfl) (Sl.nth 12 rfl rfl)) ?_
      simp -dsimp -implicitDefEqProofs (disch := omega) [go_sem, -List.getD_eq_getElem?_getD, ite_yes, ht0, ht1, ht2, ht3]
      refine ACall.of (toNmS_A cu hlen3 c3 _ t3 hS3.app) ?_
      simp -dsimp -implicitDefEqProofs (disch := omega) [go_sem, -List.getD_eq_getElem?_getD, ite_yes, ht0, ht1, ht2, ht3]
      refine ACall.of (eqNmS_A cu cu hlen3 hlen3 _ _ _ _ _ (Sl.nth 9 rfl rfl) (Sl.nth 13 rfl rfl)) ?_
      simp -dsimp -implicitDefEqProofs (disch := omega) [go_sem, -List.getD_eq_getElem?_getD, ite_yes, ht0, ht1, ht2, ht3]
      exact fin_flat rfl rfl
end Go.Proofs.Ytaehphcaiabdmaa
