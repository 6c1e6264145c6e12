/- BestOrder and QuickestOrder: both sides, and the laws. -/
import Derived.Test.YtaehphcaiabdmaaQuick
namespace Go.Proofs.Ytaehphcaiabdmaa
open Go.Am
set_option linter.unusedVariables false
set_option linter.unusedSimpArgs false
set_option maxRecDepth 100000
set_option maxHeartbeats 4000000

def quickOk (n : Int) (ps : List Pp) (l : List Vl) (src : Int) (cu : List Int) : Bool := askR n ps l src && custOk n cu
theorem quick1_A (m u d : Nat) (H : Heap) : AFunC Try.prog 59 [.slice (some ⟨u, 0, none⟩) m d] H (.bool true) H := by
  refine AFunC.of_body Try.func59 (by kernel_rfl) rfl (by kernel_rfl) (by simp [Try.ntmps59]) ?_
  simp -dsimp -implicitDefEqProofs (disch := omega) [go_sem, -List.getD_eq_getElem?_getD, ite_yes]
  exact fin_flat0 rfl rfl
theorem best1_A (n : Int) (ps : List Pp) (cp : Nat) (l : List Vl) (cv : Nat) (src : Int) (a : List Int) (ho : isOrd n ps l src a = true) (d : Nat) (H : Heap) (tp tv u b0 b1 b2 : Nat) (hP : Sl ppE H tp ps) (hS : Sl vlE H tv l) (hU : Sl nmE H u a) (l0 : b0 < H.length) (l1 : b1 < H.length) (l2 : b2 < H.length)
    (c0 : aCells H ⟨b0, 0, none⟩ 2 = some [.int .i64 n, .slice (some ⟨tp, 0, none⟩) ps.length cp]) (c1 : aCells H ⟨b1, 0, none⟩ 1 = some [.slice (some ⟨tv, 0, none⟩) l.length cv]) (c2 : aCells H ⟨b2, 0, none⟩ 1 = some [.int .i64 src]) :
    AFunC Try.prog 60 [.slice (some ⟨u, 0, none⟩) a.length d, .pointer (some ⟨b0, 0, none⟩), .pointer (some ⟨b1, 0, none⟩), .pointer (some ⟨b2, 0, none⟩)] H (.bool (gtlN ps l src a)) H := by
  refine AFunC.of_body Try.func60 (by kernel_rfl) rfl (by kernel_rfl) (by simp [Try.ntmps60]) ?_
  simp -dsimp -implicitDefEqProofs (disch := omega) [go_sem, -List.getD_eq_getElem?_getD, ite_yes, c0, c1, c2, l0, l1, l2]
  refine ACall.of (isGentle_A n ps cp l cv src a ho d _ tp tv u hP hS hU) ?_
  simp -dsimp -implicitDefEqProofs (disch := omega) [go_sem, -List.getD_eq_getElem?_getD, ite_yes]
  exact fin_flat0 rfl rfl
theorem iQuickest_bad (n : Int) (ps : List Pp) (hps : ps.length ≤ 1048577) (cp : Nat) (l : List Vl) (hl : l.length ≤ 1048577) (c : Nat) (src : Int) (cu : List Int) (hcu : cu.length ≤ 1048577) (cw : Nat) (H : Heap) (tp t w : Nat) (hP : Sl ppE H tp ps) (hS : Sl vlE H t l) (hC : Sl nmE H w cu) (hb : quickOk n ps l src cu = false) :
    AFunC Try.prog 28 [netV n tp ps.length cp, .slice (some ⟨t, 0, none⟩) l.length c, .int .i64 src, .slice (some ⟨w, 0, none⟩) cu.length cw] H (.tuple #[.slice none 0 0, .int .i64 0, .bool false]) H := by
  refine AFunC.of_body Try.func28 (by kernel_rfl) rfl (by kernel_rfl) (by simp [Try.ntmps28]) ?_
  have htp := hP.lt
  have ht := hS.lt
  have hw := hC.lt
  unfold quickOk at hb
  simp -dsimp -implicitDefEqProofs (disch := omega) [go_sem, -List.getD_eq_getElem?_getD, ite_yes, htp, ht, hw]
  refine ACall.of (canReopen_A n ps hps cp l hl c src _ tp t hP.app hS.app) ?_
  cases hq : askR n ps l src
  · simp -dsimp -implicitDefEqProofs (disch := omega) [go_sem, -List.getD_eq_getElem?_getD, ite_yes]
    exact fin_flat rfl rfl
  rw [hq, Bool.true_and] at hb
  simp -dsimp -implicitDefEqProofs (disch := omega) [go_sem, -List.getD_eq_getElem?_getD, ite_yes, htp, ht, hw]
  refine ACall.of (areCustomers_A n tp ps.length cp cu hcu cw _ w (by simp -dsimp -implicitDefEqProofs (disch := omega) [go_sem, -List.getD_eq_getElem?_getD, ite_yes, htp]) hC.app) ?_
  simp -dsimp -implicitDefEqProofs (disch := omega) [go_sem, -List.getD_eq_getElem?_getD, ite_yes, hb]
  exact fin_flat rfl rfl
theorem iQuickest_good (n : Int) (ps : List Pp) (hps : ps.length ≤ 1048577) (cp : Nat) (l : List Vl) (hl : l.length ≤ 1048577) (c : Nat) (src : Int) (cu : List Int) (hcu : cu.length ≤ 1048577) (cw : Nat) (H : Heap) (tp t w : Nat) (hP : Sl ppE H tp ps) (hS : Sl vlE H t l) (hC : Sl nmE H w cu) (hg : quickOk n ps l src cu = true) :
    AFunC Try.prog 28 [netV n tp ps.length cp, .slice (some ⟨t, 0, none⟩) l.length c, .int .i64 src, .slice (some ⟨w, 0, none⟩) cu.length cw] H (.tuple #[.slice (some ⟨H.length, 0, none⟩) (bestR n ps l src cu false).1.length 0, .int .i64 (bestR n ps l src cu false).2, .bool true]) (H ++ [some ⟨(bestR n ps l src cu false).1.flatMap nmE, true, 3, 1⟩]) := by
  refine AFunC.of_body Try.func28 (by kernel_rfl) rfl (by kernel_rfl) (by simp [Try.ntmps28]) ?_
  have htp := hP.lt
  have ht := hS.lt
  have hw := hC.lt
  unfold quickOk at hg
  rw [Bool.and_eq_true] at hg
  obtain ⟨hq, hc⟩ := hg
  simp -dsimp -implicitDefEqProofs (disch := omega) [go_sem, -List.getD_eq_getElem?_getD, ite_yes, htp, ht, hw]
  refine ACall.of (canReopen_A n ps hps cp l hl c src _ tp t hP.app hS.app) ?_
  simp -dsimp -implicitDefEqProofs (disch := omega) [go_sem, -List.getD_eq_getElem?_getD, ite_yes, hq, htp, ht, hw]
  refine ACall.of (areCustomers_A n tp ps.length cp cu hcu cw _ w (by simp -dsimp -implicitDefEqProofs (disch := omega) [go_sem, -List.getD_eq_getElem?_getD, ite_yes, htp]) hC.app) ?_
  simp -dsimp -implicitDefEqProofs (disch := omega) [go_sem, -List.getD_eq_getElem?_getD, ite_yes, hc, htp, ht, hw]
  refine ACall.of (vis_bestR hq hc false (fun _ => true) rfl (fun _ _ => rfl) ▸ bestOrder_A n ps cp l c src cu cw hq hc 59 #[] (fun _ => true) (fun _ => True) _ tp t w hP.app hS.app hC.app trivial (fun _ => trivial) (fun _ _ _ _ _ _ h _ => h) (fun G _ a u d _ _ => quick1_A a.length u d G)) ?_
  generalize bestR n ps l src cu false = r at *
  simp -dsimp -implicitDefEqProofs (disch := omega) [go_sem, -List.getD_eq_getElem?_getD, ite_yes]
  refine fin_list [some 1] rfl ?_ (by simp -dsimp -implicitDefEqProofs (disch := omega) [go_sem, -List.getD_eq_getElem?_getD, ite_yes])
  simp -dsimp -implicitDefEqProofs (disch := omega) [go_sem, -List.getD_eq_getElem?_getD, ite_yes]
  exact .inl ⟨rfl, nmE_flat _⟩
theorem sQuickest_bad (n : Int) (ps : List Pp) (hps : ps.length ≤ 1048577) (cp : Nat) (l : List Vl) (hl : l.length ≤ 1048577) (c : Nat) (src : Int) (cu : List Int) (hcu : cu.length ≤ 1048577) (cw : Nat) (H : Heap) (tp t w : Nat) (hP : Sl ppE H tp ps) (hS : Sl vlE H t l) (hC : Sl nmE H w cu) (hb : quickOk n ps l src cu = false) :
    AFunC Try.prog 26 [netV n tp ps.length cp, .slice (some ⟨t, 0, none⟩) l.length c, .int .i64 src, .slice (some ⟨w, 0, none⟩) cu.length cw] H (.tuple #[.slice (some ⟨H.length, 0, none⟩) 0 0, .int .i64 0, .bool false]) (H ++ [some ⟨[], true, 3, 1⟩]) := by
  refine AFunC.of_body Try.func26 (by kernel_rfl) rfl (by kernel_rfl) (by simp [Try.ntmps26]) ?_
  have htp := hP.lt
  have ht := hS.lt
  have hw := hC.lt
  unfold quickOk at hb
  simp -dsimp -implicitDefEqProofs (disch := omega) [go_sem, -List.getD_eq_getElem?_getD, ite_yes, htp, ht, hw]
  refine ACall.of (l18Asked_A n ps hps cp l hl c src _ tp t hP.app hS.app) ?_
  cases hq : askR n ps l src
  · simp -dsimp -implicitDefEqProofs (disch := omega) [go_sem, -List.getD_eq_getElem?_getD, ite_yes]
    refine fin_list [some 1] rfl ?_ (by simp -dsimp -implicitDefEqProofs (disch := omega) [go_sem, -List.getD_eq_getElem?_getD, ite_yes])
    simp -dsimp -implicitDefEqProofs (disch := omega) [go_sem, -List.getD_eq_getElem?_getD, ite_yes]
    exact .inl ⟨rfl, rfl⟩
  rw [hq, Bool.true_and] at hb
  simp -dsimp -implicitDefEqProofs (disch := omega) [go_sem, -List.getD_eq_getElem?_getD, ite_yes, htp, ht, hw]
  refine ACall.of (l5Customers_A n tp ps.length cp cu hcu cw _ w (by simp -dsimp -implicitDefEqProofs (disch := omega) [go_sem, -List.getD_eq_getElem?_getD, ite_yes, htp]) hC.app) ?_
  simp -dsimp -implicitDefEqProofs (disch := omega) [go_sem, -List.getD_eq_getElem?_getD, ite_yes, hb]
  refine fin_list [some 1] rfl ?_ (by simp -dsimp -implicitDefEqProofs (disch := omega) [go_sem, -List.getD_eq_getElem?_getD, ite_yes])
  simp -dsimp -implicitDefEqProofs (disch := omega) [go_sem, -List.getD_eq_getElem?_getD, ite_yes]
  exact .inl ⟨rfl, rfl⟩
theorem sQuickest_good (n : Int) (ps : List Pp) (hps : ps.length ≤ 1048577) (cp : Nat) (l : List Vl) (hl : l.length ≤ 1048577) (c : Nat) (src : Int) (cu : List Int) (hcu : cu.length ≤ 1048577) (cw : Nat) (H : Heap) (tp t w : Nat) (hP : Sl ppE H tp ps) (hS : Sl vlE H t l) (hC : Sl nmE H w cu) (hg : quickOk n ps l src cu = true) :
    AFunC Try.prog 26 [netV n tp ps.length cp, .slice (some ⟨t, 0, none⟩) l.length c, .int .i64 src, .slice (some ⟨w, 0, none⟩) cu.length cw] H (.tuple #[.slice (some ⟨H.length, 0, none⟩) (bestR n ps l src cu false).1.length 0, .int .i64 (bestR n ps l src cu false).2, .bool true]) (H ++ [some ⟨(bestR n ps l src cu false).1.flatMap nmE, true, 3, 1⟩]) := by
  refine AFunC.of_body Try.func26 (by kernel_rfl) rfl (by kernel_rfl) (by simp [Try.ntmps26]) ?_
  have htp := hP.lt
  have ht := hS.lt
  have hw := hC.lt
  unfold quickOk at hg
  rw [Bool.and_eq_true] at hg
  obtain ⟨hq, hc⟩ := hg
  simp -dsimp -implicitDefEqProofs (disch := omega) [go_sem, -List.getD_eq_getElem?_getD, ite_yes, htp, ht, hw]
  refine ACall.of (l18Asked_A n ps hps cp l hl c src _ tp t hP.app hS.app) ?_
  simp -dsimp -implicitDefEqProofs (disch := omega) [go_sem, -List.getD_eq_getElem?_getD, ite_yes, hq, htp, ht, hw]
  refine ACall.of (l5Customers_A n tp ps.length cp cu hcu cw _ w (by simp -dsimp -implicitDefEqProofs (disch := omega) [go_sem, -List.getD_eq_getElem?_getD, ite_yes, htp]) hC.app) ?_
  simp -dsimp -implicitDefEqProofs (disch := omega) [go_sem, -List.getD_eq_getElem?_getD, ite_yes, hc, htp, ht, hw]
  obtain ⟨hgv, hN, hl10, hsrc, hs6⟩ := askR_at hq
  refine ACall.via (l18Best_R n ps l src cu hq hc false tp cp t c w cw H.length 7 [] 0 (H.length + 1) _ (GoodA.nil _) (by simp; omega) (by omega) hP.app hS.app hC.app ((Heap.get_len_add _ _ 1).trans rfl) (by omega) (by simp)) ?_
  rintro v G ⟨g, cg, rfl, hg, hV, hQ, hgb⟩
  rw [show bestN (shutL l) (gtOf false ps l src) (fun a => stepN n ps l src a cu) 7 [] = bestR n ps l src cu false from rfl] at *
  generalize bestR n ps l src cu false = r at *
  simp -dsimp -implicitDefEqProofs (disch := omega) [go_sem, -List.getD_eq_getElem?_getD, ite_yes]
  exact fin_pick3 (fun t ht => (hQ.2 t (by simp; omega)).trans (Heap.get_append_left ht)) hg hgb (nmE_flat _)
theorem lawQuickestOrder_A (n : Int) (ps : List Pp) (hl0 : ps.length ≤ 9223372036854775807) (c0 : Nat) (l : List Vl) (hl1 : l.length ≤ 9223372036854775807) (c1 : Nat) (src : Int) (cu : List Nm) (hl2 : cu.length ≤ 9223372036854775807) (c2 : Nat) (H : Heap) (t0 : Nat) (hS0 : Sl ppE H t0 ps) (t1 : Nat) (hS1 : Sl vlE H t1 l) (t2 : Nat) (hS2 : Sl nmE H t2 cu) :
    AFunC Try.prog 5 [netV n t0 ps.length c0, .slice (some ⟨t1, 0, none⟩) l.length c1, .int .i64 src, .slice (some ⟨t2, 0, none⟩) cu.length c2] H (.bool true) H := by
  refine AFunC.of_body Try.func5 (by kernel_rfl) rfl (by kernel_rfl) (by simp [Try.ntmps5]) ?_
  have ht0 := hS0.lt
  have ht1 := hS1.lt
  have ht2 := hS2.lt
  simp -dsimp -implicitDefEqProofs (disch := omega) [go_sem, -List.getD_eq_getElem?_getD, ite_yes, ht0, ht1, ht2]
  refine AIf.of (fun h => ?_) (fun h => ?_)
  · simp -dsimp -implicitDefEqProofs (disch := omega) [go_sem, -List.getD_eq_getElem?_getD, ite_yes]
    first | exact fin_flat0 rfl rfl | exact fin_flat rfl rfl
  have hlen2 : cu.length ≤ 1048577 := by
    have := of_decide_eq_false h
    omega
  simp -dsimp -implicitDefEqProofs (disch := omega) [go_sem, -List.getD_eq_getElem?_getD, ite_yes, ht0, ht1, ht2]
  refine ACall.of (szNet_A n ps.length c0 (by omega) _ (by omega) (by omega) t0 _) ?_
  simp -dsimp -implicitDefEqProofs (disch := omega) [go_sem, -List.getD_eq_getElem?_getD, ite_yes, ht0, ht1, ht2]
  refine AIf.of (fun h => ?_) (fun h => ?_)
  · simp -dsimp -implicitDefEqProofs (disch := omega) [go_sem, -List.getD_eq_getElem?_getD, ite_yes]
    first | exact fin_flat0 rfl rfl | exact fin_flat rfl rfl
  have hlen0 : ps.length ≤ 1048577 := by
    have := szPp_len (by simpa using h)
    omega
  simp -dsimp -implicitDefEqProofs (disch := omega) [go_sem, -List.getD_eq_getElem?_getD, ite_yes, ht0, ht1, ht2]
  have hz0 : 0 ≤ szPp ps.length 1048576 ∧ szPp ps.length 1048576 ≤ 1048576 := szPp_rng (by simpa using h) (by omega)
  refine ACall.of (szVl_A l.length c1 (by omega) _ (by omega) (by omega) t1 _) ?_
  simp -dsimp -implicitDefEqProofs (disch := omega) [go_sem, -List.getD_eq_getElem?_getD, ite_yes, ht0, ht1, ht2]
  refine AIf.of (fun h => ?_) (fun h => ?_)
  · simp -dsimp -implicitDefEqProofs (disch := omega) [go_sem, -List.getD_eq_getElem?_getD, ite_yes]
    first | exact fin_flat0 rfl rfl | exact fin_flat rfl rfl
  have hlen1 : l.length ≤ 1048577 := by
    have := szVl_len (by simpa using h)
    omega
  simp -dsimp -implicitDefEqProofs (disch := omega) [go_sem, -List.getD_eq_getElem?_getD, ite_yes, ht0, ht1, ht2]
  rcases Bool.eq_false_or_eq_true (quickOk n ps l src cu) with hg | hg
  · have hu := bestR_small (by unfold quickOk at hg; rw [Bool.and_eq_true] at hg; exact hg.1) cu false
    refine ACall.of (toNet_A n ps hlen0 c0 _ t0 hS0.app) ?_
    simp -dsimp -implicitDefEqProofs (disch := omega) [go_sem, -List.getD_eq_getElem?_getD, ite_yes, ht0, ht1, ht2]
    refine ACall.of (toVlS_A l hlen1 c1 _ t1 hS1.app) ?_
    simp -dsimp -implicitDefEqProofs (disch := omega) [go_sem, -List.getD_eq_getElem?_getD, ite_yes, ht0, ht1, ht2]
    refine ACall.of (toNmS_A cu hlen2 c2 _ t2 hS2.app) ?_
    simp -dsimp -implicitDefEqProofs (disch := omega) [go_sem, -List.getD_eq_getElem?_getD, ite_yes, ht0, ht1, ht2]
    refine ACall.of (sQuickest_good n ps hlen0 _ l hlen1 _ src cu hlen2 _ _ _ _ _ (Sl.nth 1 rfl rfl) (Sl.nth 2 rfl rfl) (Sl.nth 3 rfl rfl) hg) ?_
    simp -dsimp -implicitDefEqProofs (disch := omega) [go_sem, -List.getD_eq_getElem?_getD, ite_yes, ht0, ht1, ht2]
    refine ACall.of (toNet_A n ps hlen0 c0 _ t0 hS0.app) ?_
    simp -dsimp -implicitDefEqProofs (disch := omega) [go_sem, -List.getD_eq_getElem?_getD, ite_yes, ht0, ht1, ht2]
    refine ACall.of (toVlS_A l hlen1 c1 _ t1 hS1.app) ?_
    simp -dsimp -implicitDefEqProofs (disch := omega) [go_sem, -List.getD_eq_getElem?_getD, ite_yes, ht0, ht1, ht2]
    refine ACall.of (toNmS_A cu hlen2 c2 _ t2 hS2.app) ?_
    simp -dsimp -implicitDefEqProofs (disch := omega) [go_sem, -List.getD_eq_getElem?_getD, ite_yes, ht0, ht1, ht2]
    refine ACall.of (iQuickest_good n ps hlen0 _ l hlen1 _ src cu hlen2 _ _ _ _ _ (Sl.nth 5 rfl rfl) (Sl.nth 7 rfl rfl) (Sl.nth 8 rfl rfl) hg) ?_
    simp -dsimp -implicitDefEqProofs (disch := omega) [go_sem, -List.getD_eq_getElem?_getD, ite_yes, ht0, ht1, ht2]
    refine ACall.of (eqNmS_A (bestR n ps l src cu false).1 (bestR n ps l src cu false).1 hu hu _ _ _ _ _ (Sl.nth 9 rfl rfl) (Sl.nth 4 rfl rfl)) ?_
    simp -dsimp -implicitDefEqProofs (disch := omega) [go_sem, -List.getD_eq_getElem?_getD, ite_yes, ht0, ht1, ht2]
    refine ADraw.any _ (by kernel_rfl) (SubH.refl) ?_
    refine AAny.two 4 0 1 (by kernel_rfl) (by kernel_rfl) (by kernel_rfl) ?_ ?_
    · simp -dsimp -implicitDefEqProofs (disch := omega) [go_sem, -List.getD_eq_getElem?_getD, ite_yes, ht0, ht1, ht2]
      first | refine AAt.of (by first | exact SubH.refl | exact SubH.app | exact SubH.both (by simp [subL])) ?_ | (refine ⟨?_, AAt.of (by first | exact SubH.refl | exact SubH.app | exact SubH.both (by simp [subL])) ?_⟩; · omega)
      refine AAny.one 3 1 (by kernel_rfl) (by kernel_rfl) (by kernel_rfl) ?_
      simp -dsimp -implicitDefEqProofs (disch := omega) [go_sem, -List.getD_eq_getElem?_getD, ite_yes, ht0, ht1, ht2]
      first | refine AAt.of (by first | exact SubH.refl | exact SubH.app | exact SubH.both (by simp [subL])) ?_ | (refine ⟨?_, AAt.of (by first | exact SubH.refl | exact SubH.app | exact SubH.both (by simp [subL])) ?_⟩; · omega)
      refine AAny.one 2 2 (by kernel_rfl) (by kernel_rfl) (by kernel_rfl) ?_
      simp -dsimp -implicitDefEqProofs (disch := omega) [go_sem, -List.getD_eq_getElem?_getD, ite_yes, ht0, ht1, ht2]
      refine ACall.of (toNet_A n ps hlen0 c0 _ t0 hS0.app) ?_
      simp -dsimp -implicitDefEqProofs (disch := omega) [go_sem, -List.getD_eq_getElem?_getD, ite_yes, ht0, ht1, ht2]
      first | refine AAt.of (by first | exact SubH.refl | exact SubH.app | exact SubH.both (by simp [subL])) ?_ | (refine ⟨?_, AAt.of (by first | exact SubH.refl | exact SubH.app | exact SubH.both (by simp [subL])) ?_⟩; · omega)
      refine AAny.one 1 3 (by kernel_rfl) (by kernel_rfl) (by kernel_rfl) ?_
      simp -dsimp -implicitDefEqProofs (disch := omega) [go_sem, -List.getD_eq_getElem?_getD, ite_yes, ht0, ht1, ht2]
      refine ACall.of (eqNet_A n n ps ps hlen0 hlen0 _ _ _ _ _ (Sl.nth 5 rfl rfl) (Sl.nth 10 rfl rfl)) ?_
      simp -dsimp -implicitDefEqProofs (disch := omega) [go_sem, -List.getD_eq_getElem?_getD, ite_yes, ht0, ht1, ht2]
      first | refine AAt.of (by first | exact SubH.refl | exact SubH.app | exact SubH.both (by simp [subL])) ?_ | (refine ⟨?_, AAt.of (by first | exact SubH.refl | exact SubH.app | exact SubH.both (by simp [subL])) ?_⟩; · omega)
      refine AAny.takes (fuel := 0) (by kernel_rfl) (by kernel_rfl) [4] (by kernel_rfl) (by kernel_rfl) ?_
      simp -dsimp -implicitDefEqProofs (disch := omega) [go_sem, -List.getD_eq_getElem?_getD, ite_yes, ht0, ht1, ht2]
      refine AAny.done (by kernel_rfl) ?_
      simp -dsimp -implicitDefEqProofs (disch := omega) [go_sem, -List.getD_eq_getElem?_getD, ite_yes, ht0, ht1, ht2]
      refine ACall.of (toVlS_A l hlen1 c1 _ t1 hS1.app) ?_
      simp -dsimp -implicitDefEqProofs (disch := omega) [go_sem, -List.getD_eq_getElem?_getD, ite_yes, ht0, ht1, ht2]
      refine ACall.of (eqVlS_A l l hlen1 hlen1 _ _ _ _ _ (Sl.nth 7 rfl rfl) (Sl.nth 11 rfl rfl)) ?_
      simp -dsimp -implicitDefEqProofs (disch := omega) [go_sem, -List.getD_eq_getElem?_getD, ite_yes, ht0, ht1, ht2]
      refine ACall.of (toNmS_A cu hlen2 c2 _ t2 hS2.app) ?_
      simp -dsimp -implicitDefEqProofs (disch := omega) [go_sem, -List.getD_eq_getElem?_getD, ite_yes, ht0, ht1, ht2]
      refine ACall.of (eqNmS_A cu cu hlen2 hlen2 _ _ _ _ _ (Sl.nth 8 rfl rfl) (Sl.nth 12 rfl rfl)) ?_
      simp -dsimp -implicitDefEqProofs (disch := omega) [go_sem, -List.getD_eq_getElem?_getD, ite_yes, ht0, ht1, ht2]
      refine ACall.of (markNet_A n ps hlen0 _ _ _ (by omega) (by omega) _ _ ((Heap.get_len_add _ _ 5).trans rfl)) ?_
      simp -dsimp -implicitDefEqProofs (disch := omega) [go_sem, -List.getD_eq_getElem?_getD, ite_yes, ht0, ht1, ht2]
      refine ACall.of (markVlS_A l hlen1 _ _ _ (by omega) (by omega) _ _ ((Heap.get_len_add _ _ 7).trans rfl)) ?_
      simp -dsimp -implicitDefEqProofs (disch := omega) [go_sem, -List.getD_eq_getElem?_getD, ite_yes, ht0, ht1, ht2]
      refine ACall.of (markNmS_A cu hlen2 _ _ _ (by omega) (by omega) _ _ ((Heap.get_len_add _ _ 8).trans rfl)) ?_
      simp -dsimp -implicitDefEqProofs (disch := omega) [go_sem, -List.getD_eq_getElem?_getD, ite_yes, ht0, ht1, ht2]
      refine AIf.of (fun h => absurd (of_decide_eq_true h) (by omega)) (fun _ => ?_)
      simp -dsimp -implicitDefEqProofs (disch := omega) [go_sem, -List.getD_eq_getElem?_getD, ite_yes, ht0, ht1, ht2]
      refine ACall.of (eqNmS_A (bestR n ps l src cu false).1 (bestR n ps l src cu false).1 hu hu _ _ _ _ _ (Sl.nth 9 rfl rfl) (Sl.nth 4 rfl rfl)) ?_
      simp -dsimp -implicitDefEqProofs (disch := omega) [go_sem, -List.getD_eq_getElem?_getD, ite_yes, ht0, ht1, ht2]
      refine ACall.of (markNmS_A (bestR n ps l src cu false).1 hu _ _ _ (by omega) (by omega) _ _ ((Heap.get_len_add _ _ 9).trans rfl)) ?_
      simp -dsimp -implicitDefEqProofs (disch := omega) [go_sem, -List.getD_eq_getElem?_getD, ite_yes, ht0, ht1, ht2]
      refine ACall.of (heldNmS_A _ hu _ _ (by omega) (by omega) _ _ (Sl.nth 9 rfl rfl)) ?_
      simp -dsimp -implicitDefEqProofs (disch := omega) [go_sem, -List.getD_eq_getElem?_getD, ite_yes, ht0, ht1, ht2]
      refine AIf.of (fun h => absurd (of_decide_eq_true h) (by omega)) (fun _ => ?_)
      simp -dsimp -implicitDefEqProofs (disch := omega) [go_sem, -List.getD_eq_getElem?_getD, ite_yes, ht0, ht1, ht2]
      refine ACall.of (toNet_A n ps hlen0 c0 _ t0 hS0.app) ?_
      simp -dsimp -implicitDefEqProofs (disch := omega) [go_sem, -List.getD_eq_getElem?_getD, ite_yes, ht0, ht1, ht2]
      refine ACall.of (toVlS_A l hlen1 c1 _ t1 hS1.app) ?_
      simp -dsimp -implicitDefEqProofs (disch := omega) [go_sem, -List.getD_eq_getElem?_getD, ite_yes, ht0, ht1, ht2]
      refine ACall.of (toNmS_A cu hlen2 c2 _ t2 hS2.app) ?_
      simp -dsimp -implicitDefEqProofs (disch := omega) [go_sem, -List.getD_eq_getElem?_getD, ite_yes, ht0, ht1, ht2]
      refine ACall.of (iQuickest_good n ps hlen0 _ l hlen1 _ src cu hlen2 _ _ _ _ _ (Sl.nth 13 rfl rfl) (Sl.nth 14 rfl rfl) (Sl.nth 15 rfl rfl) hg) ?_
      simp -dsimp -implicitDefEqProofs (disch := omega) [go_sem, -List.getD_eq_getElem?_getD, ite_yes, ht0, ht1, ht2]
      refine ACall.of (eqNmS_A (bestR n ps l src cu false).1 (bestR n ps l src cu false).1 hu hu _ _ _ _ _ (Sl.nth 16 rfl rfl) (Sl.nth 4 rfl rfl)) ?_
      simp -dsimp -implicitDefEqProofs (disch := omega) [go_sem, -List.getD_eq_getElem?_getD, ite_yes, ht0, ht1, ht2]
      refine ACall.of (heldNmS_A _ hu _ _ (by omega) (by omega) _ _ (Sl.nth 9 rfl rfl)) ?_
      simp -dsimp -implicitDefEqProofs (disch := omega) [go_sem, -List.getD_eq_getElem?_getD, ite_yes, ht0, ht1, ht2]
      refine AIf.of (fun h => absurd (of_decide_eq_true h) (by omega)) (fun _ => ?_)
      simp -dsimp -implicitDefEqProofs (disch := omega) [go_sem, -List.getD_eq_getElem?_getD, ite_yes, ht0, ht1, ht2]
      exact fin_flat rfl rfl
    · simp -dsimp -implicitDefEqProofs (disch := omega) [go_sem, -List.getD_eq_getElem?_getD, ite_yes, ht0, ht1, ht2]
      first | refine AAt.of (by first | exact SubH.refl | exact SubH.app | exact SubH.both (by simp [subL])) ?_ | (refine ⟨?_, AAt.of (by first | exact SubH.refl | exact SubH.app | exact SubH.both (by simp [subL])) ?_⟩; · omega)
      refine AAny.two 3 0 2 (by kernel_rfl) (by kernel_rfl) (by kernel_rfl) ?_ ?_
      · simp -dsimp -implicitDefEqProofs (disch := omega) [go_sem, -List.getD_eq_getElem?_getD, ite_yes, ht0, ht1, ht2]
        first | refine AAt.of (by first | exact SubH.refl | exact SubH.app | exact SubH.both (by simp [subL])) ?_ | (refine ⟨?_, AAt.of (by first | exact SubH.refl | exact SubH.app | exact SubH.both (by simp [subL])) ?_⟩; · omega)
        refine AAny.one 2 2 (by kernel_rfl) (by kernel_rfl) (by kernel_rfl) ?_
        simp -dsimp -implicitDefEqProofs (disch := omega) [go_sem, -List.getD_eq_getElem?_getD, ite_yes, ht0, ht1, ht2]
        refine ACall.of (toNet_A n ps hlen0 c0 _ t0 hS0.app) ?_
        simp -dsimp -implicitDefEqProofs (disch := omega) [go_sem, -List.getD_eq_getElem?_getD, ite_yes, ht0, ht1, ht2]
        first | refine AAt.of (by first | exact SubH.refl | exact SubH.app | exact SubH.both (by simp [subL])) ?_ | (refine ⟨?_, AAt.of (by first | exact SubH.refl | exact SubH.app | exact SubH.both (by simp [subL])) ?_⟩; · omega)
        refine AAny.one 1 3 (by kernel_rfl) (by kernel_rfl) (by kernel_rfl) ?_
        simp -dsimp -implicitDefEqProofs (disch := omega) [go_sem, -List.getD_eq_getElem?_getD, ite_yes, ht0, ht1, ht2]
        refine ACall.of (eqNet_A n n ps ps hlen0 hlen0 _ _ _ _ _ (Sl.nth 5 rfl rfl) (Sl.nth 10 rfl rfl)) ?_
        simp -dsimp -implicitDefEqProofs (disch := omega) [go_sem, -List.getD_eq_getElem?_getD, ite_yes, ht0, ht1, ht2]
        first | refine AAt.of (by first | exact SubH.refl | exact SubH.app | exact SubH.both (by simp [subL])) ?_ | (refine ⟨?_, AAt.of (by first | exact SubH.refl | exact SubH.app | exact SubH.both (by simp [subL])) ?_⟩; · omega)
        refine AAny.takes (fuel := 0) (by kernel_rfl) (by kernel_rfl) [4] (by kernel_rfl) (by kernel_rfl) ?_
        simp -dsimp -implicitDefEqProofs (disch := omega) [go_sem, -List.getD_eq_getElem?_getD, ite_yes, ht0, ht1, ht2]
        refine AAny.done (by kernel_rfl) ?_
        simp -dsimp -implicitDefEqProofs (disch := omega) [go_sem, -List.getD_eq_getElem?_getD, ite_yes, ht0, ht1, ht2]
        refine ACall.of (toVlS_A l hlen1 c1 _ t1 hS1.app) ?_
        simp -dsimp -implicitDefEqProofs (disch := omega) [go_sem, -List.getD_eq_getElem?_getD, ite_yes, ht0, ht1, ht2]
        refine ACall.of (eqVlS_A l l hlen1 hlen1 _ _ _ _ _ (Sl.nth 7 rfl rfl) (Sl.nth 11 rfl rfl)) ?_
        simp -dsimp -implicitDefEqProofs (disch := omega) [go_sem, -List.getD_eq_getElem?_getD, ite_yes, ht0, ht1, ht2]
        refine ACall.of (toNmS_A cu hlen2 c2 _ t2 hS2.app) ?_
        simp -dsimp -implicitDefEqProofs (disch := omega) [go_sem, -List.getD_eq_getElem?_getD, ite_yes, ht0, ht1, ht2]
        refine ACall.of (eqNmS_A cu cu hlen2 hlen2 _ _ _ _ _ (Sl.nth 8 rfl rfl) (Sl.nth 12 rfl rfl)) ?_
        simp -dsimp -implicitDefEqProofs (disch := omega) [go_sem, -List.getD_eq_getElem?_getD, ite_yes, ht0, ht1, ht2]
        refine ACall.of (markNet_A n ps hlen0 _ _ _ (by omega) (by omega) _ _ ((Heap.get_len_add _ _ 5).trans rfl)) ?_
        simp -dsimp -implicitDefEqProofs (disch := omega) [go_sem, -List.getD_eq_getElem?_getD, ite_yes, ht0, ht1, ht2]
        refine ACall.of (markVlS_A l hlen1 _ _ _ (by omega) (by omega) _ _ ((Heap.get_len_add _ _ 7).trans rfl)) ?_
        simp -dsimp -implicitDefEqProofs (disch := omega) [go_sem, -List.getD_eq_getElem?_getD, ite_yes, ht0, ht1, ht2]
        refine ACall.of (markNmS_A cu hlen2 _ _ _ (by omega) (by omega) _ _ ((Heap.get_len_add _ _ 8).trans rfl)) ?_
        simp -dsimp -implicitDefEqProofs (disch := omega) [go_sem, -List.getD_eq_getElem?_getD, ite_yes, ht0, ht1, ht2]
        refine AIf.of (fun h => absurd (of_decide_eq_true h) (by omega)) (fun _ => ?_)
        simp -dsimp -implicitDefEqProofs (disch := omega) [go_sem, -List.getD_eq_getElem?_getD, ite_yes, ht0, ht1, ht2]
        refine ACall.of (eqNmS_A (bestR n ps l src cu false).1 (bestR n ps l src cu false).1 hu hu _ _ _ _ _ (Sl.nth 9 rfl rfl) (Sl.nth 4 rfl rfl)) ?_
        simp -dsimp -implicitDefEqProofs (disch := omega) [go_sem, -List.getD_eq_getElem?_getD, ite_yes, ht0, ht1, ht2]
        refine ACall.of (markNmS_A (bestR n ps l src cu false).1 hu _ _ _ (by omega) (by omega) _ _ ((Heap.get_len_add _ _ 9).trans rfl)) ?_
        simp -dsimp -implicitDefEqProofs (disch := omega) [go_sem, -List.getD_eq_getElem?_getD, ite_yes, ht0, ht1, ht2]
        refine ACall.of (heldNmS_A _ hu _ _ (by omega) (by omega) _ _ (Sl.nth 9 rfl rfl)) ?_
        simp -dsimp -implicitDefEqProofs (disch := omega) [go_sem, -List.getD_eq_getElem?_getD, ite_yes, ht0, ht1, ht2]
        refine AIf.of (fun h => absurd (of_decide_eq_true h) (by omega)) (fun _ => ?_)
        simp -dsimp -implicitDefEqProofs (disch := omega) [go_sem, -List.getD_eq_getElem?_getD, ite_yes, ht0, ht1, ht2]
        refine ACall.of (toNet_A n ps hlen0 c0 _ t0 hS0.app) ?_
        simp -dsimp -implicitDefEqProofs (disch := omega) [go_sem, -List.getD_eq_getElem?_getD, ite_yes, ht0, ht1, ht2]
        refine ACall.of (toVlS_A l hlen1 c1 _ t1 hS1.app) ?_
        simp -dsimp -implicitDefEqProofs (disch := omega) [go_sem, -List.getD_eq_getElem?_getD, ite_yes, ht0, ht1, ht2]
        refine ACall.of (toNmS_A cu hlen2 c2 _ t2 hS2.app) ?_
        simp -dsimp -implicitDefEqProofs (disch := omega) [go_sem, -List.getD_eq_getElem?_getD, ite_yes, ht0, ht1, ht2]
        refine ACall.of (iQuickest_good n ps hlen0 _ l hlen1 _ src cu hlen2 _ _ _ _ _ (Sl.nth 13 rfl rfl) (Sl.nth 14 rfl rfl) (Sl.nth 15 rfl rfl) hg) ?_
        simp -dsimp -implicitDefEqProofs (disch := omega) [go_sem, -List.getD_eq_getElem?_getD, ite_yes, ht0, ht1, ht2]
        refine ACall.of (eqNmS_A (bestR n ps l src cu false).1 (bestR n ps l src cu false).1 hu hu _ _ _ _ _ (Sl.nth 16 rfl rfl) (Sl.nth 4 rfl rfl)) ?_
        simp -dsimp -implicitDefEqProofs (disch := omega) [go_sem, -List.getD_eq_getElem?_getD, ite_yes, ht0, ht1, ht2]
        refine ACall.of (heldNmS_A _ hu _ _ (by omega) (by omega) _ _ (Sl.nth 9 rfl rfl)) ?_
        simp -dsimp -implicitDefEqProofs (disch := omega) [go_sem, -List.getD_eq_getElem?_getD, ite_yes, ht0, ht1, ht2]
        refine AIf.of (fun h => absurd (of_decide_eq_true h) (by omega)) (fun _ => ?_)
        simp -dsimp -implicitDefEqProofs (disch := omega) [go_sem, -List.getD_eq_getElem?_getD, ite_yes, ht0, ht1, ht2]
        exact fin_flat rfl rfl
      · simp -dsimp -implicitDefEqProofs (disch := omega) [go_sem, -List.getD_eq_getElem?_getD, ite_yes, ht0, ht1, ht2]
        refine ACall.of (toNet_A n ps hlen0 c0 _ t0 hS0.app) ?_
        simp -dsimp -implicitDefEqProofs (disch := omega) [go_sem, -List.getD_eq_getElem?_getD, ite_yes, ht0, ht1, ht2]
        first | refine AAt.of (by first | exact SubH.refl | exact SubH.app | exact SubH.both (by simp [subL])) ?_ | (refine ⟨?_, AAt.of (by first | exact SubH.refl | exact SubH.app | exact SubH.both (by simp [subL])) ?_⟩; · omega)
        refine AAny.one 2 0 (by kernel_rfl) (by kernel_rfl) (by kernel_rfl) ?_
        simp -dsimp -implicitDefEqProofs (disch := omega) [go_sem, -List.getD_eq_getElem?_getD, ite_yes, ht0, ht1, ht2]
        first | refine AAt.of (by first | exact SubH.refl | exact SubH.app | exact SubH.both (by simp [subL])) ?_ | (refine ⟨?_, AAt.of (by first | exact SubH.refl | exact SubH.app | exact SubH.both (by simp [subL])) ?_⟩; · omega)
        refine AAny.one 1 3 (by kernel_rfl) (by kernel_rfl) (by kernel_rfl) ?_
        simp -dsimp -implicitDefEqProofs (disch := omega) [go_sem, -List.getD_eq_getElem?_getD, ite_yes, ht0, ht1, ht2]
        refine ACall.of (eqNet_A n n ps ps hlen0 hlen0 _ _ _ _ _ (Sl.nth 5 rfl rfl) (Sl.nth 10 rfl rfl)) ?_
        simp -dsimp -implicitDefEqProofs (disch := omega) [go_sem, -List.getD_eq_getElem?_getD, ite_yes, ht0, ht1, ht2]
        first | refine AAt.of (by first | exact SubH.refl | exact SubH.app | exact SubH.both (by simp [subL])) ?_ | (refine ⟨?_, AAt.of (by first | exact SubH.refl | exact SubH.app | exact SubH.both (by simp [subL])) ?_⟩; · omega)
        refine AAny.takes (fuel := 0) (by kernel_rfl) (by kernel_rfl) [4] (by kernel_rfl) (by kernel_rfl) ?_
        simp -dsimp -implicitDefEqProofs (disch := omega) [go_sem, -List.getD_eq_getElem?_getD, ite_yes, ht0, ht1, ht2]
        refine AAny.done (by kernel_rfl) ?_
        simp -dsimp -implicitDefEqProofs (disch := omega) [go_sem, -List.getD_eq_getElem?_getD, ite_yes, ht0, ht1, ht2]
        refine ACall.of (toVlS_A l hlen1 c1 _ t1 hS1.app) ?_
        simp -dsimp -implicitDefEqProofs (disch := omega) [go_sem, -List.getD_eq_getElem?_getD, ite_yes, ht0, ht1, ht2]
        refine ACall.of (eqVlS_A l l hlen1 hlen1 _ _ _ _ _ (Sl.nth 7 rfl rfl) (Sl.nth 11 rfl rfl)) ?_
        simp -dsimp -implicitDefEqProofs (disch := omega) [go_sem, -List.getD_eq_getElem?_getD, ite_yes, ht0, ht1, ht2]
        refine ACall.of (toNmS_A cu hlen2 c2 _ t2 hS2.app) ?_
        simp -dsimp -implicitDefEqProofs (disch := omega) [go_sem, -List.getD_eq_getElem?_getD, ite_yes, ht0, ht1, ht2]
        refine ACall.of (eqNmS_A cu cu hlen2 hlen2 _ _ _ _ _ (Sl.nth 8 rfl rfl) (Sl.nth 12 rfl rfl)) ?_
        simp -dsimp -implicitDefEqProofs (disch := omega) [go_sem, -List.getD_eq_getElem?_getD, ite_yes, ht0, ht1, ht2]
        refine ACall.of (markNet_A n ps hlen0 _ _ _ (by omega) (by omega) _ _ ((Heap.get_len_add _ _ 5).trans rfl)) ?_
        simp -dsimp -implicitDefEqProofs (disch := omega) [go_sem, -List.getD_eq_getElem?_getD, ite_yes, ht0, ht1, ht2]
        refine ACall.of (markVlS_A l hlen1 _ _ _ (by omega) (by omega) _ _ ((Heap.get_len_add _ _ 7).trans rfl)) ?_
        simp -dsimp -implicitDefEqProofs (disch := omega) [go_sem, -List.getD_eq_getElem?_getD, ite_yes, ht0, ht1, ht2]
        refine ACall.of (markNmS_A cu hlen2 _ _ _ (by omega) (by omega) _ _ ((Heap.get_len_add _ _ 8).trans rfl)) ?_
        simp -dsimp -implicitDefEqProofs (disch := omega) [go_sem, -List.getD_eq_getElem?_getD, ite_yes, ht0, ht1, ht2]
        refine AIf.of (fun h => absurd (of_decide_eq_true h) (by omega)) (fun _ => ?_)
        simp -dsimp -implicitDefEqProofs (disch := omega) [go_sem, -List.getD_eq_getElem?_getD, ite_yes, ht0, ht1, ht2]
        refine ACall.of (eqNmS_A (bestR n ps l src cu false).1 (bestR n ps l src cu false).1 hu hu _ _ _ _ _ (Sl.nth 9 rfl rfl) (Sl.nth 4 rfl rfl)) ?_
        simp -dsimp -implicitDefEqProofs (disch := omega) [go_sem, -List.getD_eq_getElem?_getD, ite_yes, ht0, ht1, ht2]
        refine ACall.of (markNmS_A (bestR n ps l src cu false).1 hu _ _ _ (by omega) (by omega) _ _ ((Heap.get_len_add _ _ 9).trans rfl)) ?_
        simp -dsimp -implicitDefEqProofs (disch := omega) [go_sem, -List.getD_eq_getElem?_getD, ite_yes, ht0, ht1, ht2]
        refine ACall.of (heldNmS_A _ hu _ _ (by omega) (by omega) _ _ (Sl.nth 9 rfl rfl)) ?_
        simp -dsimp -implicitDefEqProofs (disch := omega) [go_sem, -List.getD_eq_getElem?_getD, ite_yes, ht0, ht1, ht2]
        refine AIf.of (fun h => absurd (of_decide_eq_true h) (by omega)) (fun _ => ?_)
        simp -dsimp -implicitDefEqProofs (disch := omega) [go_sem, -List.getD_eq_getElem?_getD, ite_yes, ht0, ht1, ht2]
        refine ACall.of (toNet_A n ps hlen0 c0 _ t0 hS0.app) ?_
        simp -dsimp -implicitDefEqProofs (disch := omega) [go_sem, -List.getD_eq_getElem?_getD, ite_yes, ht0, ht1, ht2]
        refine ACall.of (toVlS_A l hlen1 c1 _ t1 hS1.app) ?_
        simp -dsimp -implicitDefEqProofs (disch := omega) [go_sem, -List.getD_eq_getElem?_getD, ite_yes, ht0, ht1, ht2]
        refine ACall.of (toNmS_A cu hlen2 c2 _ t2 hS2.app) ?_
        simp -dsimp -implicitDefEqProofs (disch := omega) [go_sem, -List.getD_eq_getElem?_getD, ite_yes, ht0, ht1, ht2]
        refine ACall.of (iQuickest_good n ps hlen0 _ l hlen1 _ src cu hlen2 _ _ _ _ _ (Sl.nth 13 rfl rfl) (Sl.nth 14 rfl rfl) (Sl.nth 15 rfl rfl) hg) ?_
        simp -dsimp -implicitDefEqProofs (disch := omega) [go_sem, -List.getD_eq_getElem?_getD, ite_yes, ht0, ht1, ht2]
        refine ACall.of (eqNmS_A (bestR n ps l src cu false).1 (bestR n ps l src cu false).1 hu hu _ _ _ _ _ (Sl.nth 16 rfl rfl) (Sl.nth 4 rfl rfl)) ?_
        simp -dsimp -implicitDefEqProofs (disch := omega) [go_sem, -List.getD_eq_getElem?_getD, ite_yes, ht0, ht1, ht2]
        refine ACall.of (heldNmS_A _ hu _ _ (by omega) (by omega) _ _ (Sl.nth 9 rfl rfl)) ?_
        simp -dsimp -implicitDefEqProofs (disch := omega) [go_sem, -List.getD_eq_getElem?_getD, ite_yes, ht0, ht1, ht2]
        refine AIf.of (fun h => absurd (of_decide_eq_true h) (by omega)) (fun _ => ?_)
        simp -dsimp -implicitDefEqProofs (disch := omega) [go_sem, -List.getD_eq_getElem?_getD, ite_yes, ht0, ht1, ht2]
        exact fin_flat rfl rfl
  · refine ACall.of (toNet_A n ps hlen0 c0 _ t0 hS0.app) ?_
    simp -dsimp -implicitDefEqProofs (disch := omega) [go_sem, -List.getD_eq_getElem?_getD, ite_yes, ht0, ht1, ht2]
    refine ACall.of (toVlS_A l hlen1 c1 _ t1 hS1.app) ?_
    simp -dsimp -implicitDefEqProofs (disch := omega) [go_sem, -List.getD_eq_getElem?_getD, ite_yes, ht0, ht1, ht2]
    refine ACall.of (toNmS_A cu hlen2 c2 _ t2 hS2.app) ?_
    simp -dsimp -implicitDefEqProofs (disch := omega) [go_sem, -List.getD_eq_getElem?_getD, ite_yes, ht0, ht1, ht2]
    refine ACall.of (sQuickest_bad n ps hlen0 _ l hlen1 _ src cu hlen2 _ _ _ _ _ (Sl.nth 1 rfl rfl) (Sl.nth 2 rfl rfl) (Sl.nth 3 rfl rfl) hg) ?_
    simp -dsimp -implicitDefEqProofs (disch := omega) [go_sem, -List.getD_eq_getElem?_getD, ite_yes, ht0, ht1, ht2]
    refine ACall.of (toNet_A n ps hlen0 c0 _ t0 hS0.app) ?_
    simp -dsimp -implicitDefEqProofs (disch := omega) [go_sem, -List.getD_eq_getElem?_getD, ite_yes, ht0, ht1, ht2]
    refine ACall.of (toVlS_A l hlen1 c1 _ t1 hS1.app) ?_
    simp -dsimp -implicitDefEqProofs (disch := omega) [go_sem, -List.getD_eq_getElem?_getD, ite_yes, ht0, ht1, ht2]
    refine ACall.of (toNmS_A cu hlen2 c2 _ t2 hS2.app) ?_
    simp -dsimp -implicitDefEqProofs (disch := omega) [go_sem, -List.getD_eq_getElem?_getD, ite_yes, ht0, ht1, ht2]
    refine ACall.of (iQuickest_bad n ps hlen0 _ l hlen1 _ src cu hlen2 _ _ _ _ _ (Sl.nth 5 rfl rfl) (Sl.nth 7 rfl rfl) (Sl.nth 8 rfl rfl) hg) ?_
    simp -dsimp -implicitDefEqProofs (disch := omega) [go_sem, -List.getD_eq_getElem?_getD, ite_yes, ht0, ht1, ht2]
    refine ACall.of (eqNmS_nil _ _ _) ?_
    simp -dsimp -implicitDefEqProofs (disch := omega) [go_sem, -List.getD_eq_getElem?_getD, ite_yes, ht0, ht1, ht2]
    refine ADraw.any _ (by kernel_rfl) (SubH.refl) ?_
    refine AAny.two 4 0 1 (by kernel_rfl) (by kernel_rfl) (by kernel_rfl) ?_ ?_
    · simp -dsimp -implicitDefEqProofs (disch := omega) [go_sem, -List.getD_eq_getElem?_getD, ite_yes, ht0, ht1, ht2]
      first | refine AAt.of (by first | exact SubH.refl | exact SubH.app | exact SubH.both (by simp [subL])) ?_ | (refine ⟨?_, AAt.of (by first | exact SubH.refl | exact SubH.app | exact SubH.both (by simp [subL])) ?_⟩; · omega)
      refine AAny.one 3 1 (by kernel_rfl) (by kernel_rfl) (by kernel_rfl) ?_
      simp -dsimp -implicitDefEqProofs (disch := omega) [go_sem, -List.getD_eq_getElem?_getD, ite_yes, ht0, ht1, ht2]
      first | refine AAt.of (by first | exact SubH.refl | exact SubH.app | exact SubH.both (by simp [subL])) ?_ | (refine ⟨?_, AAt.of (by first | exact SubH.refl | exact SubH.app | exact SubH.both (by simp [subL])) ?_⟩; · omega)
      refine AAny.one 2 2 (by kernel_rfl) (by kernel_rfl) (by kernel_rfl) ?_
      simp -dsimp -implicitDefEqProofs (disch := omega) [go_sem, -List.getD_eq_getElem?_getD, ite_yes, ht0, ht1, ht2]
      refine ACall.of (toNet_A n ps hlen0 c0 _ t0 hS0.app) ?_
      simp -dsimp -implicitDefEqProofs (disch := omega) [go_sem, -List.getD_eq_getElem?_getD, ite_yes, ht0, ht1, ht2]
      first | refine AAt.of (by first | exact SubH.refl | exact SubH.app | exact SubH.both (by simp [subL])) ?_ | (refine ⟨?_, AAt.of (by first | exact SubH.refl | exact SubH.app | exact SubH.both (by simp [subL])) ?_⟩; · omega)
      refine AAny.one 1 3 (by kernel_rfl) (by kernel_rfl) (by kernel_rfl) ?_
      simp -dsimp -implicitDefEqProofs (disch := omega) [go_sem, -List.getD_eq_getElem?_getD, ite_yes, ht0, ht1, ht2]
      refine ACall.of (eqNet_A n n ps ps hlen0 hlen0 _ _ _ _ _ (Sl.nth 5 rfl rfl) (Sl.nth 9 rfl rfl)) ?_
      simp -dsimp -implicitDefEqProofs (disch := omega) [go_sem, -List.getD_eq_getElem?_getD, ite_yes, ht0, ht1, ht2]
      first | refine AAt.of (by first | exact SubH.refl | exact SubH.app | exact SubH.both (by simp [subL])) ?_ | (refine ⟨?_, AAt.of (by first | exact SubH.refl | exact SubH.app | exact SubH.both (by simp [subL])) ?_⟩; · omega)
      refine AAny.takes (fuel := 0) (by kernel_rfl) (by kernel_rfl) [4] (by kernel_rfl) (by kernel_rfl) ?_
      simp -dsimp -implicitDefEqProofs (disch := omega) [go_sem, -List.getD_eq_getElem?_getD, ite_yes, ht0, ht1, ht2]
      refine AAny.done (by kernel_rfl) ?_
      simp -dsimp -implicitDefEqProofs (disch := omega) [go_sem, -List.getD_eq_getElem?_getD, ite_yes, ht0, ht1, ht2]
      refine ACall.of (toVlS_A l hlen1 c1 _ t1 hS1.app) ?_
      simp -dsimp -implicitDefEqProofs (disch := omega) [go_sem, -List.getD_eq_getElem?_getD, ite_yes, ht0, ht1, ht2]
      refine ACall.of (eqVlS_A l l hlen1 hlen1 _ _ _ _ _ (Sl.nth 7 rfl rfl) (Sl.nth 10 rfl rfl)) ?_
      simp -dsimp -implicitDefEqProofs (disch := omega) [go_sem, -List.getD_eq_getElem?_getD, ite_yes, ht0, ht1, ht2]
      refine ACall.of (toNmS_A cu hlen2 c2 _ t2 hS2.app) ?_
      simp -dsimp -implicitDefEqProofs (disch := omega) [go_sem, -List.getD_eq_getElem?_getD, ite_yes, ht0, ht1, ht2]
      refine ACall.of (eqNmS_A cu cu hlen2 hlen2 _ _ _ _ _ (Sl.nth 8 rfl rfl) (Sl.nth 11 rfl rfl)) ?_
      simp -dsimp -implicitDefEqProofs (disch := omega) [go_sem, -List.getD_eq_getElem?_getD, ite_yes, ht0, ht1, ht2]
      refine ACall.of (markNet_A n ps hlen0 _ _ _ (by omega) (by omega) _ _ ((Heap.get_len_add _ _ 5).trans rfl)) ?_
      simp -dsimp -implicitDefEqProofs (disch := omega) [go_sem, -List.getD_eq_getElem?_getD, ite_yes, ht0, ht1, ht2]
      refine ACall.of (markVlS_A l hlen1 _ _ _ (by omega) (by omega) _ _ ((Heap.get_len_add _ _ 7).trans rfl)) ?_
      simp -dsimp -implicitDefEqProofs (disch := omega) [go_sem, -List.getD_eq_getElem?_getD, ite_yes, ht0, ht1, ht2]
      refine ACall.of (markNmS_A cu hlen2 _ _ _ (by omega) (by omega) _ _ ((Heap.get_len_add _ _ 8).trans rfl)) ?_
      simp -dsimp -implicitDefEqProofs (disch := omega) [go_sem, -List.getD_eq_getElem?_getD, ite_yes, ht0, ht1, ht2]
      refine AIf.of (fun h => absurd (of_decide_eq_true h) (by omega)) (fun _ => ?_)
      simp -dsimp -implicitDefEqProofs (disch := omega) [go_sem, -List.getD_eq_getElem?_getD, ite_yes, ht0, ht1, ht2]
      refine ACall.of (eqNmS_nil _ _ _) ?_
      simp -dsimp -implicitDefEqProofs (disch := omega) [go_sem, -List.getD_eq_getElem?_getD, ite_yes, ht0, ht1, ht2]
      refine ACall.of (markNmS_nil _ _) ?_
      simp -dsimp -implicitDefEqProofs (disch := omega) [go_sem, -List.getD_eq_getElem?_getD, ite_yes, ht0, ht1, ht2]
      refine ACall.of (heldNmS_nil _ _) ?_
      simp -dsimp -implicitDefEqProofs (disch := omega) [go_sem, -List.getD_eq_getElem?_getD, ite_yes, ht0, ht1, ht2]
      refine ACall.of (toNet_A n ps hlen0 c0 _ t0 hS0.app) ?_
      simp -dsimp -implicitDefEqProofs (disch := omega) [go_sem, -List.getD_eq_getElem?_getD, ite_yes, ht0, ht1, ht2]
      refine ACall.of (toVlS_A l hlen1 c1 _ t1 hS1.app) ?_
      simp -dsimp -implicitDefEqProofs (disch := omega) [go_sem, -List.getD_eq_getElem?_getD, ite_yes, ht0, ht1, ht2]
      refine ACall.of (toNmS_A cu hlen2 c2 _ t2 hS2.app) ?_
      simp -dsimp -implicitDefEqProofs (disch := omega) [go_sem, -List.getD_eq_getElem?_getD, ite_yes, ht0, ht1, ht2]
      refine ACall.of (iQuickest_bad n ps hlen0 _ l hlen1 _ src cu hlen2 _ _ _ _ _ (Sl.nth 12 rfl rfl) (Sl.nth 13 rfl rfl) (Sl.nth 14 rfl rfl) hg) ?_
      simp -dsimp -implicitDefEqProofs (disch := omega) [go_sem, -List.getD_eq_getElem?_getD, ite_yes, ht0, ht1, ht2]
      refine ACall.of (eqNmS_nil _ _ _) ?_
      simp -dsimp -implicitDefEqProofs (disch := omega) [go_sem, -List.getD_eq_getElem?_getD, ite_yes, ht0, ht1, ht2]
      refine ACall.of (heldNmS_nil _ _) ?_
      simp -dsimp -implicitDefEqProofs (disch := omega) [go_sem, -List.getD_eq_getElem?_getD, ite_yes, ht0, ht1, ht2]
      exact fin_flat rfl rfl
    · simp -dsimp -implicitDefEqProofs (disch := omega) [go_sem, -List.getD_eq_getElem?_getD, ite_yes, ht0, ht1, ht2]
      first | refine AAt.of (by first | exact SubH.refl | exact SubH.app | exact SubH.both (by simp [subL])) ?_ | (refine ⟨?_, AAt.of (by first | exact SubH.refl | exact SubH.app | exact SubH.both (by simp [subL])) ?_⟩; · omega)
      refine AAny.two 3 0 2 (by kernel_rfl) (by kernel_rfl) (by kernel_rfl) ?_ ?_
      · simp -dsimp -implicitDefEqProofs (disch := omega) [go_sem, -List.getD_eq_getElem?_getD, ite_yes, ht0, ht1, ht2]
        first | refine AAt.of (by first | exact SubH.refl | exact SubH.app | exact SubH.both (by simp [subL])) ?_ | (refine ⟨?_, AAt.of (by first | exact SubH.refl | exact SubH.app | exact SubH.both (by simp [subL])) ?_⟩; · omega)
        refine AAny.one 2 2 (by kernel_rfl) (by kernel_rfl) (by kernel_rfl) ?_
        simp -dsimp -implicitDefEqProofs (disch := omega) [go_sem, -List.getD_eq_getElem?_getD, ite_yes, ht0, ht1, ht2]
        refine ACall.of (toNet_A n ps hlen0 c0 _ t0 hS0.app) ?_
        simp -dsimp -implicitDefEqProofs (disch := omega) [go_sem, -List.getD_eq_getElem?_getD, ite_yes, ht0, ht1, ht2]
        first | refine AAt.of (by first | exact SubH.refl | exact SubH.app | exact SubH.both (by simp [subL])) ?_ | (refine ⟨?_, AAt.of (by first | exact SubH.refl | exact SubH.app | exact SubH.both (by simp [subL])) ?_⟩; · omega)
        refine AAny.one 1 3 (by kernel_rfl) (by kernel_rfl) (by kernel_rfl) ?_
        simp -dsimp -implicitDefEqProofs (disch := omega) [go_sem, -List.getD_eq_getElem?_getD, ite_yes, ht0, ht1, ht2]
        refine ACall.of (eqNet_A n n ps ps hlen0 hlen0 _ _ _ _ _ (Sl.nth 5 rfl rfl) (Sl.nth 9 rfl rfl)) ?_
        simp -dsimp -implicitDefEqProofs (disch := omega) [go_sem, -List.getD_eq_getElem?_getD, ite_yes, ht0, ht1, ht2]
        first | refine AAt.of (by first | exact SubH.refl | exact SubH.app | exact SubH.both (by simp [subL])) ?_ | (refine ⟨?_, AAt.of (by first | exact SubH.refl | exact SubH.app | exact SubH.both (by simp [subL])) ?_⟩; · omega)
        refine AAny.takes (fuel := 0) (by kernel_rfl) (by kernel_rfl) [4] (by kernel_rfl) (by kernel_rfl) ?_
        simp -dsimp -implicitDefEqProofs (disch := omega) [go_sem, -List.getD_eq_getElem?_getD, ite_yes, ht0, ht1, ht2]
        refine AAny.done (by kernel_rfl) ?_
        simp -dsimp -implicitDefEqProofs (disch := omega) [go_sem, -List.getD_eq_getElem?_getD, ite_yes, ht0, ht1, ht2]
        refine ACall.of (toVlS_A l hlen1 c1 _ t1 hS1.app) ?_
        simp -dsimp -implicitDefEqProofs (disch := omega) [go_sem, -List.getD_eq_getElem?_getD, ite_yes, ht0, ht1, ht2]
        refine ACall.of (eqVlS_A l l hlen1 hlen1 _ _ _ _ _ (Sl.nth 7 rfl rfl) (Sl.nth 10 rfl rfl)) ?_
        simp -dsimp -implicitDefEqProofs (disch := omega) [go_sem, -List.getD_eq_getElem?_getD, ite_yes, ht0, ht1, ht2]
        refine ACall.of (toNmS_A cu hlen2 c2 _ t2 hS2.app) ?_
        simp -dsimp -implicitDefEqProofs (disch := omega) [go_sem, -List.getD_eq_getElem?_getD, ite_yes, ht0, ht1, ht2]
        refine ACall.of (eqNmS_A cu cu hlen2 hlen2 _ _ _ _ _ (Sl.nth 8 rfl rfl) (Sl.nth 11 rfl rfl)) ?_
        simp -dsimp -implicitDefEqProofs (disch := omega) [go_sem, -List.getD_eq_getElem?_getD, ite_yes, ht0, ht1, ht2]
        refine ACall.of (markNet_A n ps hlen0 _ _ _ (by omega) (by omega) _ _ ((Heap.get_len_add _ _ 5).trans rfl)) ?_
        simp -dsimp -implicitDefEqProofs (disch := omega) [go_sem, -List.getD_eq_getElem?_getD, ite_yes, ht0, ht1, ht2]
        refine ACall.of (markVlS_A l hlen1 _ _ _ (by omega) (by omega) _ _ ((Heap.get_len_add _ _ 7).trans rfl)) ?_
        simp -dsimp -implicitDefEqProofs (disch := omega) [go_sem, -List.getD_eq_getElem?_getD, ite_yes, ht0, ht1, ht2]
        refine ACall.of (markNmS_A cu hlen2 _ _ _ (by omega) (by omega) _ _ ((Heap.get_len_add _ _ 8).trans rfl)) ?_
        simp -dsimp -implicitDefEqProofs (disch := omega) [go_sem, -List.getD_eq_getElem?_getD, ite_yes, ht0, ht1, ht2]
        refine AIf.of (fun h => absurd (of_decide_eq_true h) (by omega)) (fun _ => ?_)
        simp -dsimp -implicitDefEqProofs (disch := omega) [go_sem, -List.getD_eq_getElem?_getD, ite_yes, ht0, ht1, ht2]
        refine ACall.of (eqNmS_nil _ _ _) ?_
        simp -dsimp -implicitDefEqProofs (disch := omega) [go_sem, -List.getD_eq_getElem?_getD, ite_yes, ht0, ht1, ht2]
        refine ACall.of (markNmS_nil _ _) ?_
        simp -dsimp -implicitDefEqProofs (disch := omega) [go_sem, -List.getD_eq_getElem?_getD, ite_yes, ht0, ht1, ht2]
        refine ACall.of (heldNmS_nil _ _) ?_
        simp -dsimp -implicitDefEqProofs (disch := omega) [go_sem, -List.getD_eq_getElem?_getD, ite_yes, ht0, ht1, ht2]
        refine ACall.of (toNet_A n ps hlen0 c0 _ t0 hS0.app) ?_
        simp -dsimp -implicitDefEqProofs (disch := omega) [go_sem, -List.getD_eq_getElem?_getD, ite_yes, ht0, ht1, ht2]
        refine ACall.of (toVlS_A l hlen1 c1 _ t1 hS1.app) ?_
        simp -dsimp -implicitDefEqProofs (disch := omega) [go_sem, -List.getD_eq_getElem?_getD, ite_yes, ht0, ht1, ht2]
        refine ACall.of (toNmS_A cu hlen2 c2 _ t2 hS2.app) ?_
        simp -dsimp -implicitDefEqProofs (disch := omega) [go_sem, -List.getD_eq_getElem?_getD, ite_yes, ht0, ht1, ht2]
        refine ACall.of (iQuickest_bad n ps hlen0 _ l hlen1 _ src cu hlen2 _ _ _ _ _ (Sl.nth 12 rfl rfl) (Sl.nth 13 rfl rfl) (Sl.nth 14 rfl rfl) hg) ?_
        simp -dsimp -implicitDefEqProofs (disch := omega) [go_sem, -List.getD_eq_getElem?_getD, ite_yes, ht0, ht1, ht2]
        refine ACall.of (eqNmS_nil _ _ _) ?_
        simp -dsimp -implicitDefEqProofs (disch := omega) [go_sem, -List.getD_eq_getElem?_getD, ite_yes, ht0, ht1, ht2]
        refine ACall.of (heldNmS_nil _ _) ?_
        simp -dsimp -implicitDefEqProofs (disch := omega) [go_sem, -List.getD_eq_getElem?_getD, ite_yes, ht0, ht1, ht2]
        exact fin_flat rfl rfl
      · simp -dsimp -implicitDefEqProofs (disch := omega) [go_sem, -List.getD_eq_getElem?_getD, ite_yes, ht0, ht1, ht2]
        refine ACall.of (toNet_A n ps hlen0 c0 _ t0 hS0.app) ?_
        simp -dsimp -implicitDefEqProofs (disch := omega) [go_sem, -List.getD_eq_getElem?_getD, ite_yes, ht0, ht1, ht2]
        first | refine AAt.of (by first | exact SubH.refl | exact SubH.app | exact SubH.both (by simp [subL])) ?_ | (refine ⟨?_, AAt.of (by first | exact SubH.refl | exact SubH.app | exact SubH.both (by simp [subL])) ?_⟩; · omega)
        refine AAny.one 2 0 (by kernel_rfl) (by kernel_rfl) (by kernel_rfl) ?_
        simp -dsimp -implicitDefEqProofs (disch := omega) [go_sem, -List.getD_eq_getElem?_getD, ite_yes, ht0, ht1, ht2]
        first | refine AAt.of (by first | exact SubH.refl | exact SubH.app | exact SubH.both (by simp [subL])) ?_ | (refine ⟨?_, AAt.of (by first | exact SubH.refl | exact SubH.app | exact SubH.both (by simp [subL])) ?_⟩; · omega)
        refine AAny.one 1 3 (by kernel_rfl) (by kernel_rfl) (by kernel_rfl) ?_
        simp -dsimp -implicitDefEqProofs (disch := omega) [go_sem, -List.getD_eq_getElem?_getD, ite_yes, ht0, ht1, ht2]
        refine ACall.of (eqNet_A n n ps ps hlen0 hlen0 _ _ _ _ _ (Sl.nth 5 rfl rfl) (Sl.nth 9 rfl rfl)) ?_
        simp -dsimp -implicitDefEqProofs (disch := omega) [go_sem, -List.getD_eq_getElem?_getD, ite_yes, ht0, ht1, ht2]
        first | refine AAt.of (by first | exact SubH.refl | exact SubH.app | exact SubH.both (by simp [subL])) ?_ | (refine ⟨?_, AAt.of (by first | exact SubH.refl | exact SubH.app | exact SubH.both (by simp [subL])) ?_⟩; · omega)
        refine AAny.takes (fuel := 0) (by kernel_rfl) (by kernel_rfl) [4] (by kernel_rfl) (by kernel_rfl) ?_
        simp -dsimp -implicitDefEqProofs (disch := omega) [go_sem, -List.getD_eq_getElem?_getD, ite_yes, ht0, ht1, ht2]
        refine AAny.done (by kernel_rfl) ?_
        simp -dsimp -implicitDefEqProofs (disch := omega) [go_sem, -List.getD_eq_getElem?_getD, ite_yes, ht0, ht1, ht2]
        refine ACall.of (toVlS_A l hlen1 c1 _ t1 hS1.app) ?_
        simp -dsimp -implicitDefEqProofs (disch := omega) [go_sem, -List.getD_eq_getElem?_getD, ite_yes, ht0, ht1, ht2]
        refine ACall.of (eqVlS_A l l hlen1 hlen1 _ _ _ _ _ (Sl.nth 7 rfl rfl) (Sl.nth 10 rfl rfl)) ?_
        simp -dsimp -implicitDefEqProofs (disch := omega) [go_sem, -List.getD_eq_getElem?_getD, ite_yes, ht0, ht1, ht2]
        refine ACall.of (toNmS_A cu hlen2 c2 _ t2 hS2.app) ?_
        simp -dsimp -implicitDefEqProofs (disch := omega) [go_sem, -List.getD_eq_getElem?_getD, ite_yes, ht0, ht1, ht2]
        refine ACall.of (eqNmS_A cu cu hlen2 hlen2 _ _ _ _ _ (Sl.nth 8 rfl rfl) (Sl.nth 11 rfl rfl)) ?_
        simp -dsimp -implicitDefEqProofs (disch := omega) [go_sem, -List.getD_eq_getElem?_getD, ite_yes, ht0, ht1, ht2]
        refine ACall.of (markNet_A n ps hlen0 _ _ _ (by omega) (by omega) _ _ ((Heap.get_len_add _ _ 5).trans rfl)) ?_
        simp -dsimp -implicitDefEqProofs (disch := omega) [go_sem, -List.getD_eq_getElem?_getD, ite_yes, ht0, ht1, ht2]
        refine ACall.of (markVlS_A l hlen1 _ _ _ (by omega) (by omega) _ _ ((Heap.get_len_add _ _ 7).trans rfl)) ?_
        simp -dsimp -implicitDefEqProofs (disch := omega) [go_sem, -List.getD_eq_getElem?_getD, ite_yes, ht0, ht1, ht2]
        refine ACall.of (markNmS_A cu hlen2 _ _ _ (by omega) (by omega) _ _ ((Heap.get_len_add _ _ 8).trans rfl)) ?_
        simp -dsimp -implicitDefEqProofs (disch := omega) [go_sem, -List.getD_eq_getElem?_getD, ite_yes, ht0, ht1, ht2]
        refine AIf.of (fun h => absurd (of_decide_eq_true h) (by omega)) (fun _ => ?_)
        simp -dsimp -implicitDefEqProofs (disch := omega) [go_sem, -List.getD_eq_getElem?_getD, ite_yes, ht0, ht1, ht2]
        refine ACall.of (eqNmS_nil _ _ _) ?_
        simp -dsimp -implicitDefEqProofs (disch := omega) [go_sem, -List.getD_eq_getElem?_getD, ite_yes, ht0, ht1, ht2]
        refine ACall.of (markNmS_nil _ _) ?_
        simp -dsimp -implicitDefEqProofs (disch := omega) [go_sem, -List.getD_eq_getElem?_getD, ite_yes, ht0, ht1, ht2]
        refine ACall.of (heldNmS_nil _ _) ?_
        simp -dsimp -implicitDefEqProofs (disch := omega) [go_sem, -List.getD_eq_getElem?_getD, ite_yes, ht0, ht1, ht2]
        refine ACall.of (toNet_A n ps hlen0 c0 _ t0 hS0.app) ?_
        simp -dsimp -implicitDefEqProofs (disch := omega) [go_sem, -List.getD_eq_getElem?_getD, ite_yes, ht0, ht1, ht2]
        refine ACall.of (toVlS_A l hlen1 c1 _ t1 hS1.app) ?_
        simp -dsimp -implicitDefEqProofs (disch := omega) [go_sem, -List.getD_eq_getElem?_getD, ite_yes, ht0, ht1, ht2]
        refine ACall.of (toNmS_A cu hlen2 c2 _ t2 hS2.app) ?_
        simp -dsimp -implicitDefEqProofs (disch := omega) [go_sem, -List.getD_eq_getElem?_getD, ite_yes, ht0, ht1, ht2]
        refine ACall.of (iQuickest_bad n ps hlen0 _ l hlen1 _ src cu hlen2 _ _ _ _ _ (Sl.nth 12 rfl rfl) (Sl.nth 13 rfl rfl) (Sl.nth 14 rfl rfl) hg) ?_
        simp -dsimp -implicitDefEqProofs (disch := omega) [go_sem, -List.getD_eq_getElem?_getD, ite_yes, ht0, ht1, ht2]
        refine ACall.of (eqNmS_nil _ _ _) ?_
        simp -dsimp -implicitDefEqProofs (disch := omega) [go_sem, -List.getD_eq_getElem?_getD, ite_yes, ht0, ht1, ht2]
        refine ACall.of (heldNmS_nil _ _) ?_
        simp -dsimp -implicitDefEqProofs (disch := omega) [go_sem, -List.getD_eq_getElem?_getD, ite_yes, ht0, ht1, ht2]
        exact fin_flat rfl rfl
theorem iBest_bad (n : Int) (ps : List Pp) (hps : ps.length ≤ 1048577) (cp : Nat) (l : List Vl) (hl : l.length ≤ 1048577) (c : Nat) (src : Int) (cu : List Int) (hcu : cu.length ≤ 1048577) (cw : Nat) (H : Heap) (tp t w : Nat) (hP : Sl ppE H tp ps) (hS : Sl vlE H t l) (hC : Sl nmE H w cu) (hb : quickOk n ps l src cu = false) :
    AFunC Try.prog 30 [netV n tp ps.length cp, .slice (some ⟨t, 0, none⟩) l.length c, .int .i64 src, .slice (some ⟨w, 0, none⟩) cu.length cw] H (.tuple #[.slice none 0 0, .int .i64 0, .bool false]) H := by
  refine AFunC.of_body Try.func30 (by kernel_rfl) rfl (by kernel_rfl) (by simp [Try.ntmps30]) ?_
  have htp := hP.lt
  have ht := hS.lt
  have hw := hC.lt
  unfold quickOk at hb
  simp -dsimp -implicitDefEqProofs (disch := omega) [go_sem, -List.getD_eq_getElem?_getD, ite_yes, htp, ht, hw]
  refine ACall.of (canReopen_A n ps hps cp l hl c src _ tp t hP.app hS.app) ?_
  cases hq : askR n ps l src
  · simp -dsimp -implicitDefEqProofs (disch := omega) [go_sem, -List.getD_eq_getElem?_getD, ite_yes]
    exact fin_flat rfl rfl
  rw [hq, Bool.true_and] at hb
  simp -dsimp -implicitDefEqProofs (disch := omega) [go_sem, -List.getD_eq_getElem?_getD, ite_yes, htp, ht, hw]
  refine ACall.of (areCustomers_A n tp ps.length cp cu hcu cw _ w (by simp -dsimp -implicitDefEqProofs (disch := omega) [go_sem, -List.getD_eq_getElem?_getD, ite_yes, htp]) hC.app) ?_
  simp -dsimp -implicitDefEqProofs (disch := omega) [go_sem, -List.getD_eq_getElem?_getD, ite_yes, hb]
  exact fin_flat rfl rfl
theorem iBest_good (n : Int) (ps : List Pp) (hps : ps.length ≤ 1048577) (cp : Nat) (l : List Vl) (hl : l.length ≤ 1048577) (c : Nat) (src : Int) (cu : List Int) (hcu : cu.length ≤ 1048577) (cw : Nat) (H : Heap) (tp t w : Nat) (hP : Sl ppE H tp ps) (hS : Sl vlE H t l) (hC : Sl nmE H w cu) (hg : quickOk n ps l src cu = true) :
    AFunC Try.prog 30 [netV n tp ps.length cp, .slice (some ⟨t, 0, none⟩) l.length c, .int .i64 src, .slice (some ⟨w, 0, none⟩) cu.length cw] H (.tuple #[.slice (some ⟨H.length, 0, none⟩) (bestR n ps l src cu true).1.length 0, .int .i64 (bestR n ps l src cu true).2, .bool true]) (H ++ [some ⟨(bestR n ps l src cu true).1.flatMap nmE, true, 3, 1⟩]) := by
  refine AFunC.of_body Try.func30 (by kernel_rfl) rfl (by kernel_rfl) (by simp [Try.ntmps30]) ?_
  have htp := hP.lt
  have ht := hS.lt
  have hw := hC.lt
  unfold quickOk at hg
  rw [Bool.and_eq_true] at hg
  obtain ⟨hq, hc⟩ := hg
  simp -dsimp -implicitDefEqProofs (disch := omega) [go_sem, -List.getD_eq_getElem?_getD, ite_yes, htp, ht, hw]
  refine ACall.of (canReopen_A n ps hps cp l hl c src _ tp t hP.app hS.app) ?_
  simp -dsimp -implicitDefEqProofs (disch := omega) [go_sem, -List.getD_eq_getElem?_getD, ite_yes, hq, htp, ht, hw]
  refine ACall.of (areCustomers_A n tp ps.length cp cu hcu cw _ w (by simp -dsimp -implicitDefEqProofs (disch := omega) [go_sem, -List.getD_eq_getElem?_getD, ite_yes, htp]) hC.app) ?_
  simp -dsimp -implicitDefEqProofs (disch := omega) [go_sem, -List.getD_eq_getElem?_getD, ite_yes, hc, htp, ht, hw]
  have B := bestOrder_A n ps cp l c src cu cw hq hc 60 #[.pointer (some ⟨H.length, 0, none⟩), .pointer (some ⟨H.length + 1, 0, none⟩), .pointer (some ⟨H.length + 2, 0, none⟩)] (gtlN ps l src)
    (fun G => H.length + 2 < G.length ∧ Sl ppE G tp ps ∧ Sl vlE G t l ∧ aCells G ⟨H.length, 0, none⟩ 2 = some [.int .i64 n, .slice (some ⟨tp, 0, none⟩) ps.length cp] ∧ aCells G ⟨H.length + 1, 0, none⟩ 1 = some [.slice (some ⟨t, 0, none⟩) l.length c] ∧ aCells G ⟨H.length + 2, 0, none⟩ 1 = some [.int .i64 src])
    (H ++ [some ⟨[.int .i64 n, .slice (some ⟨tp, 0, none⟩) ps.length cp], true, 33, 1⟩, some ⟨[.slice (some ⟨t, 0, none⟩) l.length c], true, 35, 1⟩, some ⟨[.int .i64 src], true, 3, 1⟩]) tp t w hP.app hS.app hC.app (by simp -dsimp -implicitDefEqProofs (disch := omega) [go_sem, -List.getD_eq_getElem?_getD, ite_yes]) (fun L => ⟨by simp, hP.app.app, hS.app.app, by simp -dsimp -implicitDefEqProofs (disch := omega) [go_sem, -List.getD_eq_getElem?_getD, ite_yes], by simp -dsimp -implicitDefEqProofs (disch := omega) [go_sem, -List.getD_eq_getElem?_getD, ite_yes], by simp -dsimp -implicitDefEqProofs (disch := omega) [go_sem, -List.getD_eq_getElem?_getD, ite_yes]⟩)
    (fun a b K G ha hb ⟨h0, h1, h2, h3, h4, h5⟩ k => by
      simp only [List.length_append, List.length_cons, List.length_nil] at ha hb
      exact ⟨Nat.lt_of_lt_of_le h0 k.1, k.sl h1 (by omega) (by omega), k.sl h2 (by omega) (by omega), k.cells (by omega) (by omega) (by omega) h3, k.cells (by omega) (by omega) (by omega) h4, k.cells (by omega) (by omega) (by omega) h5⟩)
    (fun G ⟨h0, h1, h2, h3, h4, h5⟩ a u d hU ho => best1_A n ps cp l c src a (by rw [isOrd, hq, ho]; rfl) d G tp t u _ _ _ h1 h2 hU (by omega) (by omega) h0 h3 h4 h5)
  rw [vis_bestR hq hc true (gtlN ps l src) rfl (fun a x => gtlN_snoc ps l src a x)] at B
  refine ACall.of B ?_
  generalize bestR n ps l src cu true = r at *
  simp -dsimp -implicitDefEqProofs (disch := omega) [go_sem, -List.getD_eq_getElem?_getD, ite_yes]
  refine fin_list [some 3] rfl ?_ (by simp -dsimp -implicitDefEqProofs (disch := omega) [go_sem, -List.getD_eq_getElem?_getD, ite_yes])
  simp -dsimp -implicitDefEqProofs (disch := omega) [go_sem, -List.getD_eq_getElem?_getD, ite_yes]
  exact .inl ⟨rfl, nmE_flat _⟩
theorem sBest_bad (n : Int) (ps : List Pp) (hps : ps.length ≤ 1048577) (cp : Nat) (l : List Vl) (hl : l.length ≤ 1048577) (c : Nat) (src : Int) (cu : List Int) (hcu : cu.length ≤ 1048577) (cw : Nat) (H : Heap) (tp t w : Nat) (hP : Sl ppE H tp ps) (hS : Sl vlE H t l) (hC : Sl nmE H w cu) (hb : quickOk n ps l src cu = false) :
    AFunC Try.prog 29 [netV n tp ps.length cp, .slice (some ⟨t, 0, none⟩) l.length c, .int .i64 src, .slice (some ⟨w, 0, none⟩) cu.length cw] H (.tuple #[.slice (some ⟨H.length, 0, none⟩) 0 0, .int .i64 0, .bool false]) (H ++ [some ⟨[], true, 3, 1⟩]) := by
  refine AFunC.of_body Try.func29 (by kernel_rfl) rfl (by kernel_rfl) (by simp [Try.ntmps29]) ?_
  have htp := hP.lt
  have ht := hS.lt
  have hw := hC.lt
  unfold quickOk at hb
  simp -dsimp -implicitDefEqProofs (disch := omega) [go_sem, -List.getD_eq_getElem?_getD, ite_yes, htp, ht, hw]
  refine ACall.of (l18Asked_A n ps hps cp l hl c src _ tp t hP.app hS.app) ?_
  cases hq : askR n ps l src
  · simp -dsimp -implicitDefEqProofs (disch := omega) [go_sem, -List.getD_eq_getElem?_getD, ite_yes]
    refine fin_list [some 1] rfl ?_ (by simp -dsimp -implicitDefEqProofs (disch := omega) [go_sem, -List.getD_eq_getElem?_getD, ite_yes])
    simp -dsimp -implicitDefEqProofs (disch := omega) [go_sem, -List.getD_eq_getElem?_getD, ite_yes]
    exact .inl ⟨rfl, rfl⟩
  rw [hq, Bool.true_and] at hb
  simp -dsimp -implicitDefEqProofs (disch := omega) [go_sem, -List.getD_eq_getElem?_getD, ite_yes, htp, ht, hw]
  refine ACall.of (l5Customers_A n tp ps.length cp cu hcu cw _ w (by simp -dsimp -implicitDefEqProofs (disch := omega) [go_sem, -List.getD_eq_getElem?_getD, ite_yes, htp]) hC.app) ?_
  simp -dsimp -implicitDefEqProofs (disch := omega) [go_sem, -List.getD_eq_getElem?_getD, ite_yes, hb]
  refine fin_list [some 1] rfl ?_ (by simp -dsimp -implicitDefEqProofs (disch := omega) [go_sem, -List.getD_eq_getElem?_getD, ite_yes])
  simp -dsimp -implicitDefEqProofs (disch := omega) [go_sem, -List.getD_eq_getElem?_getD, ite_yes]
  exact .inl ⟨rfl, rfl⟩
theorem sBest_good (n : Int) (ps : List Pp) (hps : ps.length ≤ 1048577) (cp : Nat) (l : List Vl) (hl : l.length ≤ 1048577) (c : Nat) (src : Int) (cu : List Int) (hcu : cu.length ≤ 1048577) (cw : Nat) (H : Heap) (tp t w : Nat) (hP : Sl ppE H tp ps) (hS : Sl vlE H t l) (hC : Sl nmE H w cu) (hg : quickOk n ps l src cu = true) :
    AFunC Try.prog 29 [netV n tp ps.length cp, .slice (some ⟨t, 0, none⟩) l.length c, .int .i64 src, .slice (some ⟨w, 0, none⟩) cu.length cw] H (.tuple #[.slice (some ⟨H.length, 0, none⟩) (bestR n ps l src cu true).1.length 0, .int .i64 (bestR n ps l src cu true).2, .bool true]) (H ++ [some ⟨(bestR n ps l src cu true).1.flatMap nmE, true, 3, 1⟩]) := by
  refine AFunC.of_body Try.func29 (by kernel_rfl) rfl (by kernel_rfl) (by simp [Try.ntmps29]) ?_
  have htp := hP.lt
  have ht := hS.lt
  have hw := hC.lt
  unfold quickOk at hg
  rw [Bool.and_eq_true] at hg
  obtain ⟨hq, hc⟩ := hg
  simp -dsimp -implicitDefEqProofs (disch := omega) [go_sem, -List.getD_eq_getElem?_getD, ite_yes, htp, ht, hw]
  refine ACall.of (l18Asked_A n ps hps cp l hl c src _ tp t hP.app hS.app) ?_
  simp -dsimp -implicitDefEqProofs (disch := omega) [go_sem, -List.getD_eq_getElem?_getD, ite_yes, hq, htp, ht, hw]
  refine ACall.of (l5Customers_A n tp ps.length cp cu hcu cw _ w (by simp -dsimp -implicitDefEqProofs (disch := omega) [go_sem, -List.getD_eq_getElem?_getD, ite_yes, htp]) hC.app) ?_
  simp -dsimp -implicitDefEqProofs (disch := omega) [go_sem, -List.getD_eq_getElem?_getD, ite_yes, hc, htp, ht, hw]
  obtain ⟨hgv, hN, hl10, hsrc, hs6⟩ := askR_at hq
  refine ACall.via (l18Best_R n ps l src cu hq hc true tp cp t c w cw H.length 7 [] 0 (H.length + 1) _ (GoodA.nil _) (by simp; omega) (by omega) hP.app hS.app hC.app ((Heap.get_len_add _ _ 1).trans rfl) (by omega) (by simp)) ?_
  rintro v G ⟨g, cg, rfl, hg, hV, hQ, hgb⟩
  rw [show bestN (shutL l) (gtOf true ps l src) (fun a => stepN n ps l src a cu) 7 [] = bestR n ps l src cu true from rfl] at *
  generalize bestR n ps l src cu true = r at *
  simp -dsimp -implicitDefEqProofs (disch := omega) [go_sem, -List.getD_eq_getElem?_getD, ite_yes]
  exact fin_pick3 (fun t ht => (hQ.2 t (by simp; omega)).trans (Heap.get_append_left ht)) hg hgb (nmE_flat _)
theorem lawBestOrder_A (n : Int) (ps : List Pp) (hl0 : ps.length ≤ 9223372036854775807) (c0 : Nat) (l : List Vl) (hl1 : l.length ≤ 9223372036854775807) (c1 : Nat) (src : Int) (cu : List Nm) (hl2 : cu.length ≤ 9223372036854775807) (c2 : Nat) (H : Heap) (t0 : Nat) (hS0 : Sl ppE H t0 ps) (t1 : Nat) (hS1 : Sl vlE H t1 l) (t2 : Nat) (hS2 : Sl nmE H t2 cu) :
    AFunC Try.prog 6 [netV n t0 ps.length c0, .slice (some ⟨t1, 0, none⟩) l.length c1, .int .i64 src, .slice (some ⟨t2, 0, none⟩) cu.length c2] H (.bool true) H := by
  refine AFunC.of_body Try.func6 (by kernel_rfl) rfl (by kernel_rfl) (by simp [Try.ntmps6]) ?_
  have ht0 := hS0.lt
  have ht1 := hS1.lt
  have ht2 := hS2.lt
  simp -dsimp -implicitDefEqProofs (disch := omega) [go_sem, -List.getD_eq_getElem?_getD, ite_yes, ht0, ht1, ht2]
  refine AIf.of (fun h => ?_) (fun h => ?_)
  · simp -dsimp -implicitDefEqProofs (disch := omega) [go_sem, -List.getD_eq_getElem?_getD, ite_yes]
    first | exact fin_flat0 rfl rfl | exact fin_flat rfl rfl
  have hlen2 : cu.length ≤ 1048577 := by
    have := of_decide_eq_false h
    omega
  simp -dsimp -implicitDefEqProofs (disch := omega) [go_sem, -List.getD_eq_getElem?_getD, ite_yes, ht0, ht1, ht2]
  refine ACall.of (szNet_A n ps.length c0 (by omega) _ (by omega) (by omega) t0 _) ?_
  simp -dsimp -implicitDefEqProofs (disch := omega) [go_sem, -List.getD_eq_getElem?_getD, ite_yes, ht0, ht1, ht2]
  refine AIf.of (fun h => ?_) (fun h => ?_)
  · simp -dsimp -implicitDefEqProofs (disch := omega) [go_sem, -List.getD_eq_getElem?_getD, ite_yes]
    first | exact fin_flat0 rfl rfl | exact fin_flat rfl rfl
  have hlen0 : ps.length ≤ 1048577 := by
    have := szPp_len (by simpa using h)
    omega
  simp -dsimp -implicitDefEqProofs (disch := omega) [go_sem, -List.getD_eq_getElem?_getD, ite_yes, ht0, ht1, ht2]
  have hz0 : 0 ≤ szPp ps.length 1048576 ∧ szPp ps.length 1048576 ≤ 1048576 := szPp_rng (by simpa using h) (by omega)
  refine ACall.of (szVl_A l.length c1 (by omega) _ (by omega) (by omega) t1 _) ?_
  simp -dsimp -implicitDefEqProofs (disch := omega) [go_sem, -List.getD_eq_getElem?_getD, ite_yes, ht0, ht1, ht2]
  refine AIf.of (fun h => ?_) (fun h => ?_)
  · simp -dsimp -implicitDefEqProofs (disch := omega) [go_sem, -List.getD_eq_getElem?_getD, ite_yes]
    first | exact fin_flat0 rfl rfl | exact fin_flat rfl rfl
  have hlen1 : l.length ≤ 1048577 := by
    have := szVl_len (by simpa using h)
    omega
  simp -dsimp -implicitDefEqProofs (disch := omega) [go_sem, -List.getD_eq_getElem?_getD, ite_yes, ht0, ht1, ht2]
  rcases Bool.eq_false_or_eq_true (quickOk n ps l src cu) with hg | hg
  · have hu := bestR_small (by unfold quickOk at hg; rw [Bool.and_eq_true] at hg; exact hg.1) cu true
    refine ACall.of (toNet_A n ps hlen0 c0 _ t0 hS0.app) ?_
    simp -dsimp -implicitDefEqProofs (disch := omega) [go_sem, -List.getD_eq_getElem?_getD, ite_yes, ht0, ht1, ht2]
    refine ACall.of (toVlS_A l hlen1 c1 _ t1 hS1.app) ?_
    simp -dsimp -implicitDefEqProofs (disch := omega) [go_sem, -List.getD_eq_getElem?_getD, ite_yes, ht0, ht1, ht2]
    refine ACall.of (toNmS_A cu hlen2 c2 _ t2 hS2.app) ?_
    simp -dsimp -implicitDefEqProofs (disch := omega) [go_sem, -List.getD_eq_getElem?_getD, ite_yes, ht0, ht1, ht2]
    refine ACall.of (sBest_good n ps hlen0 _ l hlen1 _ src cu hlen2 _ _ _ _ _ (Sl.nth 1 rfl rfl) (Sl.nth 2 rfl rfl) (Sl.nth 3 rfl rfl) hg) ?_
    simp -dsimp -implicitDefEqProofs (disch := omega) [go_sem, -List.getD_eq_getElem?_getD, ite_yes, ht0, ht1, ht2]
    refine ACall.of (toNet_A n ps hlen0 c0 _ t0 hS0.app) ?_
    simp -dsimp -implicitDefEqProofs (disch := omega) [go_sem, -List.getD_eq_getElem?_getD, ite_yes, ht0, ht1, ht2]
    refine ACall.of (toVlS_A l hlen1 c1 _ t1 hS1.app) ?_
    simp -dsimp -implicitDefEqProofs (disch := omega) [go_sem, -List.getD_eq_getElem?_getD, ite_yes, ht0, ht1, ht2]
    refine ACall.of (toNmS_A cu hlen2 c2 _ t2 hS2.app) ?_
    simp -dsimp -implicitDefEqProofs (disch := omega) [go_sem, -List.getD_eq_getElem?_getD, ite_yes, ht0, ht1, ht2]
    refine ACall.of (iBest_good n ps hlen0 _ l hlen1 _ src cu hlen2 _ _ _ _ _ (Sl.nth 5 rfl rfl) (Sl.nth 7 rfl rfl) (Sl.nth 8 rfl rfl) hg) ?_
    simp -dsimp -implicitDefEqProofs (disch := omega) [go_sem, -List.getD_eq_getElem?_getD, ite_yes, ht0, ht1, ht2]
    refine ACall.of (eqNmS_A (bestR n ps l src cu true).1 (bestR n ps l src cu true).1 hu hu _ _ _ _ _ (Sl.nth 9 rfl rfl) (Sl.nth 4 rfl rfl)) ?_
    simp -dsimp -implicitDefEqProofs (disch := omega) [go_sem, -List.getD_eq_getElem?_getD, ite_yes, ht0, ht1, ht2]
    refine ADraw.any _ (by kernel_rfl) (SubH.refl) ?_
    refine AAny.two 4 0 1 (by kernel_rfl) (by kernel_rfl) (by kernel_rfl) ?_ ?_
    · simp -dsimp -implicitDefEqProofs (disch := omega) [go_sem, -List.getD_eq_getElem?_getD, ite_yes, ht0, ht1, ht2]
      first | refine AAt.of (by first | exact SubH.refl | exact SubH.app | exact SubH.both (by simp [subL])) ?_ | (refine ⟨?_, AAt.of (by first | exact SubH.refl | exact SubH.app | exact SubH.both (by simp [subL])) ?_⟩; · omega)
      refine AAny.one 3 1 (by kernel_rfl) (by kernel_rfl) (by kernel_rfl) ?_
      simp -dsimp -implicitDefEqProofs (disch := omega) [go_sem, -List.getD_eq_getElem?_getD, ite_yes, ht0, ht1, ht2]
      first | refine AAt.of (by first | exact SubH.refl | exact SubH.app | exact SubH.both (by simp [subL])) ?_ | (refine ⟨?_, AAt.of (by first | exact SubH.refl | exact SubH.app | exact SubH.both (by simp [subL])) ?_⟩; · omega)
      refine AAny.one 2 2 (by kernel_rfl) (by kernel_rfl) (by kernel_rfl) ?_
      simp -dsimp -implicitDefEqProofs (disch := omega) [go_sem, -List.getD_eq_getElem?_getD, ite_yes, ht0, ht1, ht2]
      refine ACall.of (toNet_A n ps hlen0 c0 _ t0 hS0.app) ?_
      simp -dsimp -implicitDefEqProofs (disch := omega) [go_sem, -List.getD_eq_getElem?_getD, ite_yes, ht0, ht1, ht2]
      first | refine AAt.of (by first | exact SubH.refl | exact SubH.app | exact SubH.both (by simp [subL])) ?_ | (refine ⟨?_, AAt.of (by first | exact SubH.refl | exact SubH.app | exact SubH.both (by simp [subL])) ?_⟩; · omega)
      refine AAny.one 1 3 (by kernel_rfl) (by kernel_rfl) (by kernel_rfl) ?_
      simp -dsimp -implicitDefEqProofs (disch := omega) [go_sem, -List.getD_eq_getElem?_getD, ite_yes, ht0, ht1, ht2]
      refine ACall.of (eqNet_A n n ps ps hlen0 hlen0 _ _ _ _ _ (Sl.nth 5 rfl rfl) (Sl.nth 10 rfl rfl)) ?_
      simp -dsimp -implicitDefEqProofs (disch := omega) [go_sem, -List.getD_eq_getElem?_getD, ite_yes, ht0, ht1, ht2]
      first | refine AAt.of (by first | exact SubH.refl | exact SubH.app | exact SubH.both (by simp [subL])) ?_ | (refine ⟨?_, AAt.of (by first | exact SubH.refl | exact SubH.app | exact SubH.both (by simp [subL])) ?_⟩; · omega)
      refine AAny.takes (fuel := 0) (by kernel_rfl) (by kernel_rfl) [4] (by kernel_rfl) (by kernel_rfl) ?_
      simp -dsimp -implicitDefEqProofs (disch := omega) [go_sem, -List.getD_eq_getElem?_getD, ite_yes, ht0, ht1, ht2]
      refine AAny.done (by kernel_rfl) ?_
      simp -dsimp -implicitDefEqProofs (disch := omega) [go_sem, -List.getD_eq_getElem?_getD, ite_yes, ht0, ht1, ht2]
      refine ACall.of (toVlS_A l hlen1 c1 _ t1 hS1.app) ?_
      simp -dsimp -implicitDefEqProofs (disch := omega) [go_sem, -List.getD_eq_getElem?_getD, ite_yes, ht0, ht1, ht2]
      refine ACall.of (eqVlS_A l l hlen1 hlen1 _ _ _ _ _ (Sl.nth 7 rfl rfl) (Sl.nth 11 rfl rfl)) ?_
      simp -dsimp -implicitDefEqProofs (disch := omega) [go_sem, -List.getD_eq_getElem?_getD, ite_yes, ht0, ht1, ht2]
      refine ACall.of (toNmS_A cu hlen2 c2 _ t2 hS2.app) ?_
      simp -dsimp -implicitDefEqProofs (disch := omega) [go_sem, -List.getD_eq_getElem?_getD, ite_yes, ht0, ht1, ht2]
      refine ACall.of (eqNmS_A cu cu hlen2 hlen2 _ _ _ _ _ (Sl.nth 8 rfl rfl) (Sl.nth 12 rfl rfl)) ?_
      simp -dsimp -implicitDefEqProofs (disch := omega) [go_sem, -List.getD_eq_getElem?_getD, ite_yes, ht0, ht1, ht2]
      refine ACall.of (markNet_A n ps hlen0 _ _ _ (by omega) (by omega) _ _ ((Heap.get_len_add _ _ 5).trans rfl)) ?_
      simp -dsimp -implicitDefEqProofs (disch := omega) [go_sem, -List.getD_eq_getElem?_getD, ite_yes, ht0, ht1, ht2]
      refine ACall.of (markVlS_A l hlen1 _ _ _ (by omega) (by omega) _ _ ((Heap.get_len_add _ _ 7).trans rfl)) ?_
      simp -dsimp -implicitDefEqProofs (disch := omega) [go_sem, -List.getD_eq_getElem?_getD, ite_yes, ht0, ht1, ht2]
      refine ACall.of (markNmS_A cu hlen2 _ _ _ (by omega) (by omega) _ _ ((Heap.get_len_add _ _ 8).trans rfl)) ?_
      simp -dsimp -implicitDefEqProofs (disch := omega) [go_sem, -List.getD_eq_getElem?_getD, ite_yes, ht0, ht1, ht2]
      refine AIf.of (fun h => absurd (of_decide_eq_true h) (by omega)) (fun _ => ?_)
      simp -dsimp -implicitDefEqProofs (disch := omega) [go_sem, -List.getD_eq_getElem?_getD, ite_yes, ht0, ht1, ht2]
      refine ACall.of (eqNmS_A (bestR n ps l src cu true).1 (bestR n ps l src cu true).1 hu hu _ _ _ _ _ (Sl.nth 9 rfl rfl) (Sl.nth 4 rfl rfl)) ?_
      simp -dsimp -implicitDefEqProofs (disch := omega) [go_sem, -List.getD_eq_getElem?_getD, ite_yes, ht0, ht1, ht2]
      refine ACall.of (markNmS_A (bestR n ps l src cu true).1 hu _ _ _ (by omega) (by omega) _ _ ((Heap.get_len_add _ _ 9).trans rfl)) ?_
      simp -dsimp -implicitDefEqProofs (disch := omega) [go_sem, -List.getD_eq_getElem?_getD, ite_yes, ht0, ht1, ht2]
      refine ACall.of (heldNmS_A _ hu _ _ (by omega) (by omega) _ _ (Sl.nth 9 rfl rfl)) ?_
      simp -dsimp -implicitDefEqProofs (disch := omega) [go_sem, -List.getD_eq_getElem?_getD, ite_yes, ht0, ht1, ht2]
      refine AIf.of (fun h => absurd (of_decide_eq_true h) (by omega)) (fun _ => ?_)
      simp -dsimp -implicitDefEqProofs (disch := omega) [go_sem, -List.getD_eq_getElem?_getD, ite_yes, ht0, ht1, ht2]
      refine ACall.of (toNet_A n ps hlen0 c0 _ t0 hS0.app) ?_
      simp -dsimp -implicitDefEqProofs (disch := omega) [go_sem, -List.getD_eq_getElem?_getD, ite_yes, ht0, ht1, ht2]
      refine ACall.of (toVlS_A l hlen1 c1 _ t1 hS1.app) ?_
      simp -dsimp -implicitDefEqProofs (disch := omega) [go_sem, -List.getD_eq_getElem?_getD, ite_yes, ht0, ht1, ht2]
      refine ACall.of (toNmS_A cu hlen2 c2 _ t2 hS2.app) ?_
      simp -dsimp -implicitDefEqProofs (disch := omega) [go_sem, -List.getD_eq_getElem?_getD, ite_yes, ht0, ht1, ht2]
      refine ACall.of (iBest_good n ps hlen0 _ l hlen1 _ src cu hlen2 _ _ _ _ _ (Sl.nth 13 rfl rfl) (Sl.nth 14 rfl rfl) (Sl.nth 15 rfl rfl) hg) ?_
      simp -dsimp -implicitDefEqProofs (disch := omega) [go_sem, -List.getD_eq_getElem?_getD, ite_yes, ht0, ht1, ht2]
      refine ACall.of (eqNmS_A (bestR n ps l src cu true).1 (bestR n ps l src cu true).1 hu hu _ _ _ _ _ (Sl.nth 16 rfl rfl) (Sl.nth 4 rfl rfl)) ?_
      simp -dsimp -implicitDefEqProofs (disch := omega) [go_sem, -List.getD_eq_getElem?_getD, ite_yes, ht0, ht1, ht2]
      refine ACall.of (heldNmS_A _ hu _ _ (by omega) (by omega) _ _ (Sl.nth 9 rfl rfl)) ?_
      simp -dsimp -implicitDefEqProofs (disch := omega) [go_sem, -List.getD_eq_getElem?_getD, ite_yes, ht0, ht1, ht2]
      refine AIf.of (fun h => absurd (of_decide_eq_true h) (by omega)) (fun _ => ?_)
      simp -dsimp -implicitDefEqProofs (disch := omega) [go_sem, -List.getD_eq_getElem?_getD, ite_yes, ht0, ht1, ht2]
      exact fin_flat rfl rfl
    · simp -dsimp -implicitDefEqProofs (disch := omega) [go_sem, -List.getD_eq_getElem?_getD, ite_yes, ht0, ht1, ht2]
      first | refine AAt.of (by first | exact SubH.refl | exact SubH.app | exact SubH.both (by simp [subL])) ?_ | (refine ⟨?_, AAt.of (by first | exact SubH.refl | exact SubH.app | exact SubH.both (by simp [subL])) ?_⟩; · omega)
      refine AAny.two 3 0 2 (by kernel_rfl) (by kernel_rfl) (by kernel_rfl) ?_ ?_
      · simp -dsimp -implicitDefEqProofs (disch := omega) [go_sem, -List.getD_eq_getElem?_getD, ite_yes, ht0, ht1, ht2]
        first | refine AAt.of (by first | exact SubH.refl | exact SubH.app | exact SubH.both (by simp [subL])) ?_ | (refine ⟨?_, AAt.of (by first | exact SubH.refl | exact SubH.app | exact SubH.both (by simp [subL])) ?_⟩; · omega)
        refine AAny.one 2 2 (by kernel_rfl) (by kernel_rfl) (by kernel_rfl) ?_
        simp -dsimp -implicitDefEqProofs (disch := omega) [go_sem, -List.getD_eq_getElem?_getD, ite_yes, ht0, ht1, ht2]
        refine ACall.of (toNet_A n ps hlen0 c0 _ t0 hS0.app) ?_
        simp -dsimp -implicitDefEqProofs (disch := omega) [go_sem, -List.getD_eq_getElem?_getD, ite_yes, ht0, ht1, ht2]
        first | refine AAt.of (by first | exact SubH.refl | exact SubH.app | exact SubH.both (by simp [subL])) ?_ | (refine ⟨?_, AAt.of (by first | exact SubH.refl | exact SubH.app | exact SubH.both (by simp [subL])) ?_⟩; · omega)
        refine AAny.one 1 3 (by kernel_rfl) (by kernel_rfl) (by kernel_rfl) ?_
        simp -dsimp -implicitDefEqProofs (disch := omega) [go_sem, -List.getD_eq_getElem?_getD, ite_yes, ht0, ht1, ht2]
        refine ACall.of (eqNet_A n n ps ps hlen0 hlen0 _ _ _ _ _ (Sl.nth 5 rfl rfl) (Sl.nth 10 rfl rfl)) ?_
        simp -dsimp -implicitDefEqProofs (disch := omega) [go_sem, -List.getD_eq_getElem?_getD, ite_yes, ht0, ht1, ht2]
        first | refine AAt.of (by first | exact SubH.refl | exact SubH.app | exact SubH.both (by simp [subL])) ?_ | (refine ⟨?_, AAt.of (by first | exact SubH.refl | exact SubH.app | exact SubH.both (by simp [subL])) ?_⟩; · omega)
        refine AAny.takes (fuel := 0) (by kernel_rfl) (by kernel_rfl) [4] (by kernel_rfl) (by kernel_rfl) ?_
        simp -dsimp -implicitDefEqProofs (disch := omega) [go_sem, -List.getD_eq_getElem?_getD, ite_yes, ht0, ht1, ht2]
        refine AAny.done (by kernel_rfl) ?_
        simp -dsimp -implicitDefEqProofs (disch := omega) [go_sem, -List.getD_eq_getElem?_getD, ite_yes, ht0, ht1, ht2]
        refine ACall.of (toVlS_A l hlen1 c1 _ t1 hS1.app) ?_
        simp -dsimp -implicitDefEqProofs (disch := omega) [go_sem, -List.getD_eq_getElem?_getD, ite_yes, ht0, ht1, ht2]
        refine ACall.of (eqVlS_A l l hlen1 hlen1 _ _ _ _ _ (Sl.nth 7 rfl rfl) (Sl.nth 11 rfl rfl)) ?_
        simp -dsimp -implicitDefEqProofs (disch := omega) [go_sem, -List.getD_eq_getElem?_getD, ite_yes, ht0, ht1, ht2]
        refine ACall.of (toNmS_A cu hlen2 c2 _ t2 hS2.app) ?_
        simp -dsimp -implicitDefEqProofs (disch := omega) [go_sem, -List.getD_eq_getElem?_getD, ite_yes, ht0, ht1, ht2]
        refine ACall.of (eqNmS_A cu cu hlen2 hlen2 _ _ _ _ _ (Sl.nth 8 rfl rfl) (Sl.nth 12 rfl rfl)) ?_
        simp -dsimp -implicitDefEqProofs (disch := omega) [go_sem, -List.getD_eq_getElem?_getD, ite_yes, ht0, ht1, ht2]
        refine ACall.of (markNet_A n ps hlen0 _ _ _ (by omega) (by omega) _ _ ((Heap.get_len_add _ _ 5).trans rfl)) ?_
        simp -dsimp -implicitDefEqProofs (disch := omega) [go_sem, -List.getD_eq_getElem?_getD, ite_yes, ht0, ht1, ht2]
        refine ACall.of (markVlS_A l hlen1 _ _ _ (by omega) (by omega) _ _ ((Heap.get_len_add _ _ 7).trans rfl)) ?_
        simp -dsimp -implicitDefEqProofs (disch := omega) [go_sem, -List.getD_eq_getElem?_getD, ite_yes, ht0, ht1, ht2]
        refine ACall.of (markNmS_A cu hlen2 _ _ _ (by omega) (by omega) _ _ ((Heap.get_len_add _ _ 8).trans rfl)) ?_
        simp -dsimp -implicitDefEqProofs (disch := omega) [go_sem, -List.getD_eq_getElem?_getD, ite_yes, ht0, ht1, ht2]
        refine AIf.of (fun h => absurd (of_decide_eq_true h) (by omega)) (fun _ => ?_)
        simp -dsimp -implicitDefEqProofs (disch := omega) [go_sem, -List.getD_eq_getElem?_getD, ite_yes, ht0, ht1, ht2]
        refine ACall.of (eqNmS_A (bestR n ps l src cu true).1 (bestR n ps l src cu true).1 hu hu _ _ _ _ _ (Sl.nth 9 rfl rfl) (Sl.nth 4 rfl rfl)) ?_
        simp -dsimp -implicitDefEqProofs (disch := omega) [go_sem, -List.getD_eq_getElem?_getD, ite_yes, ht0, ht1, ht2]
        refine ACall.of (markNmS_A (bestR n ps l src cu true).1 hu _ _ _ (by omega) (by omega) _ _ ((Heap.get_len_add _ _ 9).trans rfl)) ?_
        simp -dsimp -implicitDefEqProofs (disch := omega) [go_sem, -List.getD_eq_getElem?_getD, ite_yes, ht0, ht1, ht2]
        refine ACall.of (heldNmS_A _ hu _ _ (by omega) (by omega) _ _ (Sl.nth 9 rfl rfl)) ?_
        simp -dsimp -implicitDefEqProofs (disch := omega) [go_sem, -List.getD_eq_getElem?_getD, ite_yes, ht0, ht1, ht2]
        refine AIf.of (fun h => absurd (of_decide_eq_true h) (by omega)) (fun _ => ?_)
        simp -dsimp -implicitDefEqProofs (disch := omega) [go_sem, -List.getD_eq_getElem?_getD, ite_yes, ht0, ht1, ht2]
        refine ACall.of (toNet_A n ps hlen0 c0 _ t0 hS0.app) ?_
        simp -dsimp -implicitDefEqProofs (disch := omega) [go_sem, -List.getD_eq_getElem?_getD, ite_yes, ht0, ht1, ht2]
        refine ACall.of (toVlS_A l hlen1 c1 _ t1 hS1.app) ?_
        simp -dsimp -implicitDefEqProofs (disch := omega) [go_sem, -List.getD_eq_getElem?_getD, ite_yes, ht0, ht1, ht2]
        refine ACall.of (toNmS_A cu hlen2 c2 _ t2 hS2.app) ?_
        simp -dsimp -implicitDefEqProofs (disch := omega) [go_sem, -List.getD_eq_getElem?_getD, ite_yes, ht0, ht1, ht2]
        refine ACall.of (iBest_good n ps hlen0 _ l hlen1 _ src cu hlen2 _ _ _ _ _ (Sl.nth 13 rfl rfl) (Sl.nth 14 rfl rfl) (Sl.nth 15 rfl rfl) hg) ?_
        simp -dsimp -implicitDefEqProofs (disch := omega) [go_sem, -List.getD_eq_getElem?_getD, ite_yes, ht0, ht1, ht2]
        refine ACall.of (eqNmS_A (bestR n ps l src cu true).1 (bestR n ps l src cu true).1 hu hu _ _ _ _ _ (Sl.nth 16 rfl rfl) (Sl.nth 4 rfl rfl)) ?_
        simp -dsimp -implicitDefEqProofs (disch := omega) [go_sem, -List.getD_eq_getElem?_getD, ite_yes, ht0, ht1, ht2]
        refine ACall.of (heldNmS_A _ hu _ _ (by omega) (by omega) _ _ (Sl.nth 9 rfl rfl)) ?_
        simp -dsimp -implicitDefEqProofs (disch := omega) [go_sem, -List.getD_eq_getElem?_getD, ite_yes, ht0, ht1, ht2]
        refine AIf.of (fun h => absurd (of_decide_eq_true h) (by omega)) (fun _ => ?_)
        simp -dsimp -implicitDefEqProofs (disch := omega) [go_sem, -List.getD_eq_getElem?_getD, ite_yes, ht0, ht1, ht2]
        exact fin_flat rfl rfl
      · simp -dsimp -implicitDefEqProofs (disch := omega) [go_sem, -List.getD_eq_getElem?_getD, ite_yes, ht0, ht1, ht2]
        refine ACall.of (toNet_A n ps hlen0 c0 _ t0 hS0.app) ?_
        simp -dsimp -implicitDefEqProofs (disch := omega) [go_sem, -List.getD_eq_getElem?_getD, ite_yes, ht0, ht1, ht2]
        first | refine AAt.of (by first | exact SubH.refl | exact SubH.app | exact SubH.both (by simp [subL])) ?_ | (refine ⟨?_, AAt.of (by first | exact SubH.refl | exact SubH.app | exact SubH.both (by simp [subL])) ?_⟩; · omega)
        refine AAny.one 2 0 (by kernel_rfl) (by kernel_rfl) (by kernel_rfl) ?_
        simp -dsimp -implicitDefEqProofs (disch := omega) [go_sem, -List.getD_eq_getElem?_getD, ite_yes, ht0, ht1, ht2]
        first | refine AAt.of (by first | exact SubH.refl | exact SubH.app | exact SubH.both (by simp [subL])) ?_ | (refine ⟨?_, AAt.of (by first | exact SubH.refl | exact SubH.app | exact SubH.both (by simp [subL])) ?_⟩; · omega)
        refine AAny.one 1 3 (by kernel_rfl) (by kernel_rfl) (by kernel_rfl) ?_
        simp -dsimp -implicitDefEqProofs (disch := omega) [go_sem, -List.getD_eq_getElem?_getD, ite_yes, ht0, ht1, ht2]
        refine ACall.of (eqNet_A n n ps ps hlen0 hlen0 _ _ _ _ _ (Sl.nth 5 rfl rfl) (Sl.nth 10 rfl rfl)) ?_
        simp -dsimp -implicitDefEqProofs (disch := omega) [go_sem, -List.getD_eq_getElem?_getD, ite_yes, ht0, ht1, ht2]
        first | refine AAt.of (by first | exact SubH.refl | exact SubH.app | exact SubH.both (by simp [subL])) ?_ | (refine ⟨?_, AAt.of (by first | exact SubH.refl | exact SubH.app | exact SubH.both (by simp [subL])) ?_⟩; · omega)
        refine AAny.takes (fuel := 0) (by kernel_rfl) (by kernel_rfl) [4] (by kernel_rfl) (by kernel_rfl) ?_
        simp -dsimp -implicitDefEqProofs (disch := omega) [go_sem, -List.getD_eq_getElem?_getD, ite_yes, ht0, ht1, ht2]
        refine AAny.done (by kernel_rfl) ?_
        simp -dsimp -implicitDefEqProofs (disch := omega) [go_sem, -List.getD_eq_getElem?_getD, ite_yes, ht0, ht1, ht2]
        refine ACall.of (toVlS_A l hlen1 c1 _ t1 hS1.app) ?_
        simp -dsimp -implicitDefEqProofs (disch := omega) [go_sem, -List.getD_eq_getElem?_getD, ite_yes, ht0, ht1, ht2]
        refine ACall.of (eqVlS_A l l hlen1 hlen1 _ _ _ _ _ (Sl.nth 7 rfl rfl) (Sl.nth 11 rfl rfl)) ?_
        simp -dsimp -implicitDefEqProofs (disch := omega) [go_sem, -List.getD_eq_getElem?_getD, ite_yes, ht0, ht1, ht2]
        refine ACall.of (toNmS_A cu hlen2 c2 _ t2 hS2.app) ?_
        simp -dsimp -implicitDefEqProofs (disch := omega) [go_sem, -List.getD_eq_getElem?_getD, ite_yes, ht0, ht1, ht2]
        refine ACall.of (eqNmS_A cu cu hlen2 hlen2 _ _ _ _ _ (Sl.nth 8 rfl rfl) (Sl.nth 12 rfl rfl)) ?_
        simp -dsimp -implicitDefEqProofs (disch := omega) [go_sem, -List.getD_eq_getElem?_getD, ite_yes, ht0, ht1, ht2]
        refine ACall.of (markNet_A n ps hlen0 _ _ _ (by omega) (by omega) _ _ ((Heap.get_len_add _ _ 5).trans rfl)) ?_
        simp -dsimp -implicitDefEqProofs (disch := omega) [go_sem, -List.getD_eq_getElem?_getD, ite_yes, ht0, ht1, ht2]
        refine ACall.of (markVlS_A l hlen1 _ _ _ (by omega) (by omega) _ _ ((Heap.get_len_add _ _ 7).trans rfl)) ?_
        simp -dsimp -implicitDefEqProofs (disch := omega) [go_sem, -List.getD_eq_getElem?_getD, ite_yes, ht0, ht1, ht2]
        refine ACall.of (markNmS_A cu hlen2 _ _ _ (by omega) (by omega) _ _ ((Heap.get_len_add _ _ 8).trans rfl)) ?_
        simp -dsimp -implicitDefEqProofs (disch := omega) [go_sem, -List.getD_eq_getElem?_getD, ite_yes, ht0, ht1, ht2]
        refine AIf.of (fun h => absurd (of_decide_eq_true h) (by omega)) (fun _ => ?_)
        simp -dsimp -implicitDefEqProofs (disch := omega) [go_sem, -List.getD_eq_getElem?_getD, ite_yes, ht0, ht1, ht2]
        refine ACall.of (eqNmS_A (bestR n ps l src cu true).1 (bestR n ps l src cu true).1 hu hu _ _ _ _ _ (Sl.nth 9 rfl rfl) (Sl.nth 4 rfl rfl)) ?_
        simp -dsimp -implicitDefEqProofs (disch := omega) [go_sem, -List.getD_eq_getElem?_getD, ite_yes, ht0, ht1, ht2]
        refine ACall.of (markNmS_A (bestR n ps l src cu true).1 hu _ _ _ (by omega) (by omega) _ _ ((Heap.get_len_add _ _ 9).trans rfl)) ?_
        simp -dsimp -implicitDefEqProofs (disch := omega) [go_sem, -List.getD_eq_getElem?_getD, ite_yes, ht0, ht1, ht2]
        refine ACall.of (heldNmS_A _ hu _ _ (by omega) (by omega) _ _ (Sl.nth 9 rfl rfl)) ?_
        simp -dsimp -implicitDefEqProofs (disch := omega) [go_sem, -List.getD_eq_getElem?_getD, ite_yes, ht0, ht1, ht2]
        refine AIf.of (fun h => absurd (of_decide_eq_true h) (by omega)) (fun _ => ?_)
        simp -dsimp -implicitDefEqProofs (disch := omega) [go_sem, -List.getD_eq_getElem?_getD, ite_yes, ht0, ht1, ht2]
        refine ACall.of (toNet_A n ps hlen0 c0 _ t0 hS0.app) ?_
        simp -dsimp -implicitDefEqProofs (disch := omega) [go_sem, -List.getD_eq_getElem?_getD, ite_yes, ht0, ht1, ht2]
        refine ACall.of (toVlS_A l hlen1 c1 _ t1 hS1.app) ?_
        simp -dsimp -implicitDefEqProofs (disch := omega) [go_sem, -List.getD_eq_getElem?_getD, ite_yes, ht0, ht1, ht2]
        refine ACall.of (toNmS_A cu hlen2 c2 _ t2 hS2.app) ?_
        simp -dsimp -implicitDefEqProofs (disch := omega) [go_sem, -List.getD_eq_getElem?_getD, ite_yes, ht0, ht1, ht2]
        refine ACall.of (iBest_good n ps hlen0 _ l hlen1 _ src cu hlen2 _ _ _ _ _ (Sl.nth 13 rfl rfl) (Sl.nth 14 rfl rfl) (Sl.nth 15 rfl rfl) hg) ?_
        simp -dsimp -implicitDefEqProofs (disch := omega) [go_sem, -List.getD_eq_getElem?_getD, ite_yes, ht0, ht1, ht2]
        refine ACall.of (eqNmS_A (bestR n ps l src cu true).1 (bestR n ps l src cu true).1 hu hu _ _ _ _ _ (Sl.nth 16 rfl rfl) (Sl.nth 4 rfl rfl)) ?_
        simp -dsimp -implicitDefEqProofs (disch := omega) [go_sem, -List.getD_eq_getElem?_getD, ite_yes, ht0, ht1, ht2]
        refine ACall.of (heldNmS_A _ hu _ _ (by omega) (by omega) _ _ (Sl.nth 9 rfl rfl)) ?_
        simp -dsimp -implicitDefEqProofs (disch := omega) [go_sem, -List.getD_eq_getElem?_getD, ite_yes, ht0, ht1, ht2]
        refine AIf.of (fun h => absurd (of_decide_eq_true h) (by omega)) (fun _ => ?_)
        simp -dsimp -implicitDefEqProofs (disch := omega) [go_sem, -List.getD_eq_getElem?_getD, ite_yes, ht0, ht1, ht2]
        exact fin_flat rfl rfl
  · refine ACall.of (toNet_A n ps hlen0 c0 _ t0 hS0.app) ?_
    simp -dsimp -implicitDefEqProofs (disch := omega) [go_sem, -List.getD_eq_getElem?_getD, ite_yes, ht0, ht1, ht2]
    refine ACall.of (toVlS_A l hlen1 c1 _ t1 hS1.app) ?_
    simp -dsimp -implicitDefEqProofs (disch := omega) [go_sem, -List.getD_eq_getElem?_getD, ite_yes, ht0, ht1, ht2]
    refine ACall.of (toNmS_A cu hlen2 c2 _ t2 hS2.app) ?_
    simp -dsimp -implicitDefEqProofs (disch := omega) [go_sem, -List.getD_eq_getElem?_getD, ite_yes, ht0, ht1, ht2]
    refine ACall.of (sBest_bad n ps hlen0 _ l hlen1 _ src cu hlen2 _ _ _ _ _ (Sl.nth 1 rfl rfl) (Sl.nth 2 rfl rfl) (Sl.nth 3 rfl rfl) hg) ?_
    simp -dsimp -implicitDefEqProofs (disch := omega) [go_sem, -List.getD_eq_getElem?_getD, ite_yes, ht0, ht1, ht2]
    refine ACall.of (toNet_A n ps hlen0 c0 _ t0 hS0.app) ?_
    simp -dsimp -implicitDefEqProofs (disch := omega) [go_sem, -List.getD_eq_getElem?_getD, ite_yes, ht0, ht1, ht2]
    refine ACall.of (toVlS_A l hlen1 c1 _ t1 hS1.app) ?_
    simp -dsimp -implicitDefEqProofs (disch := omega) [go_sem, -List.getD_eq_getElem?_getD, ite_yes, ht0, ht1, ht2]
    refine ACall.of (toNmS_A cu hlen2 c2 _ t2 hS2.app) ?_
    simp -dsimp -implicitDefEqProofs (disch := omega) [go_sem, -List.getD_eq_getElem?_getD, ite_yes, ht0, ht1, ht2]
    refine ACall.of (iBest_bad n ps hlen0 _ l hlen1 _ src cu hlen2 _ _ _ _ _ (Sl.nth 5 rfl rfl) (Sl.nth 7 rfl rfl) (Sl.nth 8 rfl rfl) hg) ?_
    simp -dsimp -implicitDefEqProofs (disch := omega) [go_sem, -List.getD_eq_getElem?_getD, ite_yes, ht0, ht1, ht2]
    refine ACall.of (eqNmS_nil _ _ _) ?_
    simp -dsimp -implicitDefEqProofs (disch := omega) [go_sem, -List.getD_eq_getElem?_getD, ite_yes, ht0, ht1, ht2]
    refine ADraw.any _ (by kernel_rfl) (SubH.refl) ?_
    refine AAny.two 4 0 1 (by kernel_rfl) (by kernel_rfl) (by kernel_rfl) ?_ ?_
    · simp -dsimp -implicitDefEqProofs (disch := omega) [go_sem, -List.getD_eq_getElem?_getD, ite_yes, ht0, ht1, ht2]
      first | refine AAt.of (by first | exact SubH.refl | exact SubH.app | exact SubH.both (by simp [subL])) ?_ | (refine ⟨?_, AAt.of (by first | exact SubH.refl | exact SubH.app | exact SubH.both (by simp [subL])) ?_⟩; · omega)
      refine AAny.one 3 1 (by kernel_rfl) (by kernel_rfl) (by kernel_rfl) ?_
      simp -dsimp -implicitDefEqProofs (disch := omega) [go_sem, -List.getD_eq_getElem?_getD, ite_yes, ht0, ht1, ht2]
      first | refine AAt.of (by first | exact SubH.refl | exact SubH.app | exact SubH.both (by simp [subL])) ?_ | (refine ⟨?_, AAt.of (by first | exact SubH.refl | exact SubH.app | exact SubH.both (by simp [subL])) ?_⟩; · omega)
      refine AAny.one 2 2 (by kernel_rfl) (by kernel_rfl) (by kernel_rfl) ?_
      simp -dsimp -implicitDefEqProofs (disch := omega) [go_sem, -List.getD_eq_getElem?_getD, ite_yes, ht0, ht1, ht2]
      refine ACall.of (toNet_A n ps hlen0 c0 _ t0 hS0.app) ?_
      simp -dsimp -implicitDefEqProofs (disch := omega) [go_sem, -List.getD_eq_getElem?_getD, ite_yes, ht0, ht1, ht2]
      first | refine AAt.of (by first | exact SubH.refl | exact SubH.app | exact SubH.both (by simp [subL])) ?_ | (refine ⟨?_, AAt.of (by first | exact SubH.refl | exact SubH.app | exact SubH.both (by simp [subL])) ?_⟩; · omega)
      refine AAny.one 1 3 (by kernel_rfl) (by kernel_rfl) (by kernel_rfl) ?_
      simp -dsimp -implicitDefEqProofs (disch := omega) [go_sem, -List.getD_eq_getElem?_getD, ite_yes, ht0, ht1, ht2]
      refine ACall.of (eqNet_A n n ps ps hlen0 hlen0 _ _ _ _ _ (Sl.nth 5 rfl rfl) (Sl.nth 9 rfl rfl)) ?_
      simp -dsimp -implicitDefEqProofs (disch := omega) [go_sem, -List.getD_eq_getElem?_getD, ite_yes, ht0, ht1, ht2]
      first | refine AAt.of (by first | exact SubH.refl | exact SubH.app | exact SubH.both (by simp [subL])) ?_ | (refine ⟨?_, AAt.of (by first | exact SubH.refl | exact SubH.app | exact SubH.both (by simp [subL])) ?_⟩; · omega)
      refine AAny.takes (fuel := 0) (by kernel_rfl) (by kernel_rfl) [4] (by kernel_rfl) (by kernel_rfl) ?_
      simp -dsimp -implicitDefEqProofs (disch := omega) [go_sem, -List.getD_eq_getElem?_getD, ite_yes, ht0, ht1, ht2]
      refine AAny.done (by kernel_rfl) ?_
      simp -dsimp -implicitDefEqProofs (disch := omega) [go_sem, -List.getD_eq_getElem?_getD, ite_yes, ht0, ht1, ht2]
      refine ACall.of (toVlS_A l hlen1 c1 _ t1 hS1.app) ?_
      simp -dsimp -implicitDefEqProofs (disch := omega) [go_sem, -List.getD_eq_getElem?_getD, ite_yes, ht0, ht1, ht2]
      refine ACall.of (eqVlS_A l l hlen1 hlen1 _ _ _ _ _ (Sl.nth 7 rfl rfl) (Sl.nth 10 rfl rfl)) ?_
      simp -dsimp -implicitDefEqProofs (disch := omega) [go_sem, -List.getD_eq_getElem?_getD, ite_yes, ht0, ht1, ht2]
      refine ACall.of (toNmS_A cu hlen2 c2 _ t2 hS2.app) ?_
      simp -dsimp -implicitDefEqProofs (disch := omega) [go_sem, -List.getD_eq_getElem?_getD, ite_yes, ht0, ht1, ht2]
      refine ACall.of (eqNmS_A cu cu hlen2 hlen2 _ _ _ _ _ (Sl.nth 8 rfl rfl) (Sl.nth 11 rfl rfl)) ?_
      simp -dsimp -implicitDefEqProofs (disch := omega) [go_sem, -List.getD_eq_getElem?_getD, ite_yes, ht0, ht1, ht2]
      refine ACall.of (markNet_A n ps hlen0 _ _ _ (by omega) (by omega) _ _ ((Heap.get_len_add _ _ 5).trans rfl)) ?_
      simp -dsimp -implicitDefEqProofs (disch := omega) [go_sem, -List.getD_eq_getElem?_getD, ite_yes, ht0, ht1, ht2]
      refine ACall.of (markVlS_A l hlen1 _ _ _ (by omega) (by omega) _ _ ((Heap.get_len_add _ _ 7).trans rfl)) ?_
      simp -dsimp -implicitDefEqProofs (disch := omega) [go_sem, -List.getD_eq_getElem?_getD, ite_yes, ht0, ht1, ht2]
      refine ACall.of (markNmS_A cu hlen2 _ _ _ (by omega) (by omega) _ _ ((Heap.get_len_add _ _ 8).trans rfl)) ?_
      simp -dsimp -implicitDefEqProofs (disch := omega) [go_sem, -List.getD_eq_getElem?_getD, ite_yes, ht0, ht1, ht2]
      refine AIf.of (fun h => absurd (of_decide_eq_true h) (by omega)) (fun _ => ?_)
      simp -dsimp -implicitDefEqProofs (disch := omega) [go_sem, -List.getD_eq_getElem?_getD, ite_yes, ht0, ht1, ht2]
      refine ACall.of (eqNmS_nil _ _ _) ?_
      simp -dsimp -implicitDefEqProofs (disch := omega) [go_sem, -List.getD_eq_getElem?_getD, ite_yes, ht0, ht1, ht2]
      refine ACall.of (markNmS_nil _ _) ?_
      simp -dsimp -implicitDefEqProofs (disch := omega) [go_sem, -List.getD_eq_getElem?_getD, ite_yes, ht0, ht1, ht2]
      refine ACall.of (heldNmS_nil _ _) ?_
      simp -dsimp -implicitDefEqProofs (disch := omega) [go_sem, -List.getD_eq_getElem?_getD, ite_yes, ht0, ht1, ht2]
      refine ACall.of (toNet_A n ps hlen0 c0 _ t0 hS0.app) ?_
      simp -dsimp -implicitDefEqProofs (disch := omega) [go_sem, -List.getD_eq_getElem?_getD, ite_yes, ht0, ht1, ht2]
      refine ACall.of (toVlS_A l hlen1 c1 _ t1 hS1.app) ?_
      simp -dsimp -implicitDefEqProofs (disch := omega) [go_sem, -List.getD_eq_getElem?_getD, ite_yes, ht0, ht1, ht2]
      refine ACall.of (toNmS_A cu hlen2 c2 _ t2 hS2.app) ?_
      simp -dsimp -implicitDefEqProofs (disch := omega) [go_sem, -List.getD_eq_getElem?_getD, ite_yes, ht0, ht1, ht2]
      refine ACall.of (iBest_bad n ps hlen0 _ l hlen1 _ src cu hlen2 _ _ _ _ _ (Sl.nth 12 rfl rfl) (Sl.nth 13 rfl rfl) (Sl.nth 14 rfl rfl) hg) ?_
      simp -dsimp -implicitDefEqProofs (disch := omega) [go_sem, -List.getD_eq_getElem?_getD, ite_yes, ht0, ht1, ht2]
      refine ACall.of (eqNmS_nil _ _ _) ?_
      simp -dsimp -implicitDefEqProofs (disch := omega) [go_sem, -List.getD_eq_getElem?_getD, ite_yes, ht0, ht1, ht2]
      refine ACall.of (heldNmS_nil _ _) ?_
      simp -dsimp -implicitDefEqProofs (disch := omega) [go_sem, -List.getD_eq_getElem?_getD, ite_yes, ht0, ht1, ht2]
      exact fin_flat rfl rfl
    · simp -dsimp -implicitDefEqProofs (disch := omega) [go_sem, -List.getD_eq_getElem?_getD, ite_yes, ht0, ht1, ht2]
      first | refine AAt.of (by first | exact SubH.refl | exact SubH.app | exact SubH.both (by simp [subL])) ?_ | (refine ⟨?_, AAt.of (by first | exact SubH.refl | exact SubH.app | exact SubH.both (by simp [subL])) ?_⟩; · omega)
      refine AAny.two 3 0 2 (by kernel_rfl) (by kernel_rfl) (by kernel_rfl) ?_ ?_
      · simp -dsimp -implicitDefEqProofs (disch := omega) [go_sem, -List.getD_eq_getElem?_getD, ite_yes, ht0, ht1, ht2]
        first | refine AAt.of (by first | exact SubH.refl | exact SubH.app | exact SubH.both (by simp [subL])) ?_ | (refine ⟨?_, AAt.of (by first | exact SubH.refl | exact SubH.app | exact SubH.both (by simp [subL])) ?_⟩; · omega)
        refine AAny.one 2 2 (by kernel_rfl) (by kernel_rfl) (by kernel_rfl) ?_
        simp -dsimp -implicitDefEqProofs (disch := omega) [go_sem, -List.getD_eq_getElem?_getD, ite_yes, ht0, ht1, ht2]
        refine ACall.of (toNet_A n ps hlen0 c0 _ t0 hS0.app) ?_
        simp -dsimp -implicitDefEqProofs (disch := omega) [go_sem, -List.getD_eq_getElem?_getD, ite_yes, ht0, ht1, ht2]
        first | refine AAt.of (by first | exact SubH.refl | exact SubH.app | exact SubH.both (by simp [subL])) ?_ | (refine ⟨?_, AAt.of (by first | exact SubH.refl | exact SubH.app | exact SubH.both (by simp [subL])) ?_⟩; · omega)
        refine AAny.one 1 3 (by kernel_rfl) (by kernel_rfl) (by kernel_rfl) ?_
        simp -dsimp -implicitDefEqProofs (disch := omega) [go_sem, -List.getD_eq_getElem?_getD, ite_yes, ht0, ht1, ht2]
        refine ACall.of (eqNet_A n n ps ps hlen0 hlen0 _ _ _ _ _ (Sl.nth 5 rfl rfl) (Sl.nth 9 rfl rfl)) ?_
        simp -dsimp -implicitDefEqProofs (disch := omega) [go_sem, -List.getD_eq_getElem?_getD, ite_yes, ht0, ht1, ht2]
        first | refine AAt.of (by first | exact SubH.refl | exact SubH.app | exact SubH.both (by simp [subL])) ?_ | (refine ⟨?_, AAt.of (by first | exact SubH.refl | exact SubH.app | exact SubH.both (by simp [subL])) ?_⟩; · omega)
        refine AAny.takes (fuel := 0) (by kernel_rfl) (by kernel_rfl) [4] (by kernel_rfl) (by kernel_rfl) ?_
        simp -dsimp -implicitDefEqProofs (disch := omega) [go_sem, -List.getD_eq_getElem?_getD, ite_yes, ht0, ht1, ht2]
        refine AAny.done (by kernel_rfl) ?_
        simp -dsimp -implicitDefEqProofs (disch := omega) [go_sem, -List.getD_eq_getElem?_getD, ite_yes, ht0, ht1, ht2]
        refine ACall.of (toVlS_A l hlen1 c1 _ t1 hS1.app) ?_
        simp -dsimp -implicitDefEqProofs (disch := omega) [go_sem, -List.getD_eq_getElem?_getD, ite_yes, ht0, ht1, ht2]
        refine ACall.of (eqVlS_A l l hlen1 hlen1 _ _ _ _ _ (Sl.nth 7 rfl rfl) (Sl.nth 10 rfl rfl)) ?_
        simp -dsimp -implicitDefEqProofs (disch := omega) [go_sem, -List.getD_eq_getElem?_getD, ite_yes, ht0, ht1, ht2]
        refine ACall.of (toNmS_A cu hlen2 c2 _ t2 hS2.app) ?_
        simp -dsimp -implicitDefEqProofs (disch := omega) [go_sem, -List.getD_eq_getElem?_getD, ite_yes, ht0, ht1, ht2]
        refine ACall.of (eqNmS_A cu cu hlen2 hlen2 _ _ _ _ _ (Sl.nth 8 rfl rfl) (Sl.nth 11 rfl rfl)) ?_
        simp -dsimp -implicitDefEqProofs (disch := omega) [go_sem, -List.getD_eq_getElem?_getD, ite_yes, ht0, ht1, ht2]
        refine ACall.of (markNet_A n ps hlen0 _ _ _ (by omega) (by omega) _ _ ((Heap.get_len_add _ _ 5).trans rfl)) ?_
        simp -dsimp -implicitDefEqProofs (disch := omega) [go_sem, -List.getD_eq_getElem?_getD, ite_yes, ht0, ht1, ht2]
        refine ACall.of (markVlS_A l hlen1 _ _ _ (by omega) (by omega) _ _ ((Heap.get_len_add _ _ 7).trans rfl)) ?_
        simp -dsimp -implicitDefEqProofs (disch := omega) [go_sem, -List.getD_eq_getElem?_getD, ite_yes, ht0, ht1, ht2]
        refine ACall.of (markNmS_A cu hlen2 _ _ _ (by omega) (by omega) _ _ ((Heap.get_len_add _ _ 8).trans rfl)) ?_
        simp -dsimp -implicitDefEqProofs (disch := omega) [go_sem, -List.getD_eq_getElem?_getD, ite_yes, ht0, ht1, ht2]
        refine AIf.of (fun h => absurd (of_decide_eq_true h) (by omega)) (fun _ => ?_)
        simp -dsimp -implicitDefEqProofs (disch := omega) [go_sem, -List.getD_eq_getElem?_getD, ite_yes, ht0, ht1, ht2]
        refine ACall.of (eqNmS_nil _ _ _) ?_
        simp -dsimp -implicitDefEqProofs (disch := omega) [go_sem, -List.getD_eq_getElem?_getD, ite_yes, ht0, ht1, ht2]
        refine ACall.of (markNmS_nil _ _) ?_
        simp -dsimp -implicitDefEqProofs (disch := omega) [go_sem, -List.getD_eq_getElem?_getD, ite_yes, ht0, ht1, ht2]
        refine ACall.of (heldNmS_nil _ _) ?_
        simp -dsimp -implicitDefEqProofs (disch := omega) [go_sem, -List.getD_eq_getElem?_getD, ite_yes, ht0, ht1, ht2]
        refine ACall.of (toNet_A n ps hlen0 c0 _ t0 hS0.app) ?_
        simp -dsimp -implicitDefEqProofs (disch := omega) [go_sem, -List.getD_eq_getElem?_getD, ite_yes, ht0, ht1, ht2]
        refine ACall.of (toVlS_A l hlen1 c1 _ t1 hS1.app) ?_
        simp -dsimp -implicitDefEqProofs (disch := omega) [go_sem, -List.getD_eq_getElem?_getD, ite_yes, ht0, ht1, ht2]
        refine ACall.of (toNmS_A cu hlen2 c2 _ t2 hS2.app) ?_
        simp -dsimp -implicitDefEqProofs (disch := omega) [go_sem, -List.getD_eq_getElem?_getD, ite_yes, ht0, ht1, ht2]
        refine ACall.of (iBest_bad n ps hlen0 _ l hlen1 _ src cu hlen2 _ _ _ _ _ (Sl.nth 12 rfl rfl) (Sl.nth 13 rfl rfl) (Sl.nth 14 rfl rfl) hg) ?_
        simp -dsimp -implicitDefEqProofs (disch := omega) [go_sem, -List.getD_eq_getElem?_getD, ite_yes, ht0, ht1, ht2]
        refine ACall.of (eqNmS_nil _ _ _) ?_
        simp -dsimp -implicitDefEqProofs (disch := omega) [go_sem, -List.getD_eq_getElem?_getD, ite_yes, ht0, ht1, ht2]
        refine ACall.of (heldNmS_nil _ _) ?_
        simp -dsimp -implicitDefEqProofs (disch := omega) [go_sem, -List.getD_eq_getElem?_getD, ite_yes, ht0, ht1, ht2]
        exact fin_flat rfl rfl
      · simp -dsimp -implicitDefEqProofs (disch := omega) [go_sem, -List.getD_eq_getElem?_getD, ite_yes, ht0, ht1, ht2]
        refine ACall.of (toNet_A n ps hlen0 c0 _ t0 hS0.app) ?_
        simp -dsimp -implicitDefEqProofs (disch := omega) [go_sem, -List.getD_eq_getElem?_getD, ite_yes, ht0, ht1, ht2]
        first | refine AAt.of (by first | exact SubH.refl | exact SubH.app | exact SubH.both (by simp [subL])) ?_ | (refine ⟨?_, AAt.of (by first | exact SubH.refl | exact SubH.app | exact SubH.both (by simp [subL])) ?_⟩; · omega)
        refine AAny.one 2 0 (by kernel_rfl) (by kernel_rfl) (by kernel_rfl) ?_
        simp -dsimp -implicitDefEqProofs (disch := omega) [go_sem, -List.getD_eq_getElem?_getD, ite_yes, ht0, ht1, ht2]
        first | refine AAt.of (by first | exact SubH.refl | exact SubH.app | exact SubH.both (by simp [subL])) ?_ | (refine ⟨?_, AAt.of (by first | exact SubH.refl | exact SubH.app | exact SubH.both (by simp [subL])) ?_⟩; · omega)
        refine AAny.one 1 3 (by kernel_rfl) (by kernel_rfl) (by kernel_rfl) ?_
        simp -dsimp -implicitDefEqProofs (disch := omega) [go_sem, -List.getD_eq_getElem?_getD, ite_yes, ht0, ht1, ht2]
        refine ACall.of (eqNet_A n n ps ps hlen0 hlen0 _ _ _ _ _ (Sl.nth 5 rfl rfl) (Sl.nth 9 rfl rfl)) ?_
        simp -dsimp -implicitDefEqProofs (disch := omega) [go_sem, -List.getD_eq_getElem?_getD, ite_yes, ht0, ht1, ht2]
        first | refine AAt.of (by first | exact SubH.refl | exact SubH.app | exact SubH.both (by simp [subL])) ?_ | (refine ⟨?_, AAt.of (by first | exact SubH.refl | exact SubH.app | exact SubH.both (by simp [subL])) ?_⟩; · omega)
        refine AAny.takes (fuel := 0) (by kernel_rfl) (by kernel_rfl) [4] (by kernel_rfl) (by kernel_rfl) ?_
        simp -dsimp -implicitDefEqProofs (disch := omega) [go_sem, -List.getD_eq_getElem?_getD, ite_yes, ht0, ht1, ht2]
        refine AAny.done (by kernel_rfl) ?_
        simp -dsimp -implicitDefEqProofs (disch := omega) [go_sem, -List.getD_eq_getElem?_getD, ite_yes, ht0, ht1, ht2]
        refine ACall.of (toVlS_A l hlen1 c1 _ t1 hS1.app) ?_
        simp -dsimp -implicitDefEqProofs (disch := omega) [go_sem, -List.getD_eq_getElem?_getD, ite_yes, ht0, ht1, ht2]
        refine ACall.of (eqVlS_A l l hlen1 hlen1 _ _ _ _ _ (Sl.nth 7 rfl rfl) (Sl.nth 10 rfl rfl)) ?_
        simp -dsimp -implicitDefEqProofs (disch := omega) [go_sem, -List.getD_eq_getElem?_getD, ite_yes, ht0, ht1, ht2]
        refine ACall.of (toNmS_A cu hlen2 c2 _ t2 hS2.app) ?_
        simp -dsimp -implicitDefEqProofs (disch := omega) [go_sem, -List.getD_eq_getElem?_getD, ite_yes, ht0, ht1, ht2]
        refine ACall.of (eqNmS_A cu cu hlen2 hlen2 _ _ _ _ _ (Sl.nth 8 rfl rfl) (Sl.nth 11 rfl rfl)) ?_
        simp -dsimp -implicitDefEqProofs (disch := omega) [go_sem, -List.getD_eq_getElem?_getD, ite_yes, ht0, ht1, ht2]
        refine ACall.of (markNet_A n ps hlen0 _ _ _ (by omega) (by omega) _ _ ((Heap.get_len_add _ _ 5).trans rfl)) ?_
        simp -dsimp -implicitDefEqProofs (disch := omega) [go_sem, -List.getD_eq_getElem?_getD, ite_yes, ht0, ht1, ht2]
        refine ACall.of (markVlS_A l hlen1 _ _ _ (by omega) (by omega) _ _ ((Heap.get_len_add _ _ 7).trans rfl)) ?_
        simp -dsimp -implicitDefEqProofs (disch := omega) [go_sem, -List.getD_eq_getElem?_getD, ite_yes, ht0, ht1, ht2]
        refine ACall.of (markNmS_A cu hlen2 _ _ _ (by omega) (by omega) _ _ ((Heap.get_len_add _ _ 8).trans rfl)) ?_
        simp -dsimp -implicitDefEqProofs (disch := omega) [go_sem, -List.getD_eq_getElem?_getD, ite_yes, ht0, ht1, ht2]
        refine AIf.of (fun h => absurd (of_decide_eq_true h) (by omega)) (fun _ => ?_)
        simp -dsimp -implicitDefEqProofs (disch := omega) [go_sem, -List.getD_eq_getElem?_getD, ite_yes, ht0, ht1, ht2]
        refine ACall.of (eqNmS_nil _ _ _) ?_
        simp -dsimp -implicitDefEqProofs (disch := omega) [go_sem, -List.getD_eq_getElem?_getD, ite_yes, ht0, ht1, ht2]
        refine ACall.of (markNmS_nil _ _) ?_
        simp -dsimp -implicitDefEqProofs (disch := omega) [go_sem, -List.getD_eq_getElem?_getD, ite_yes, ht0, ht1, ht2]
        refine ACall.of (heldNmS_nil _ _) ?_
        simp -dsimp -implicitDefEqProofs (disch := omega) [go_sem, -List.getD_eq_getElem?_getD, ite_yes, ht0, ht1, ht2]
        refine ACall.of (toNet_A n ps hlen0 c0 _ t0 hS0.app) ?_
        simp -dsimp -implicitDefEqProofs (disch := omega) [go_sem, -List.getD_eq_getElem?_getD, ite_yes, ht0, ht1, ht2]
        refine ACall.of (toVlS_A l hlen1 c1 _ t1 hS1.app) ?_
        simp -dsimp -implicitDefEqProofs (disch := omega) [go_sem, -List.getD_eq_getElem?_getD, ite_yes, ht0, ht1, ht2]
        refine ACall.of (toNmS_A cu hlen2 c2 _ t2 hS2.app) ?_
        simp -dsimp -implicitDefEqProofs (disch := omega) [go_sem, -List.getD_eq_getElem?_getD, ite_yes, ht0, ht1, ht2]
        refine ACall.of (iBest_bad n ps hlen0 _ l hlen1 _ src cu hlen2 _ _ _ _ _ (Sl.nth 12 rfl rfl) (Sl.nth 13 rfl rfl) (Sl.nth 14 rfl rfl) hg) ?_
        simp -dsimp -implicitDefEqProofs (disch := omega) [go_sem, -List.getD_eq_getElem?_getD, ite_yes, ht0, ht1, ht2]
        refine ACall.of (eqNmS_nil _ _ _) ?_
        simp -dsimp -implicitDefEqProofs (disch := omega) [go_sem, -List.getD_eq_getElem?_getD, ite_yes, ht0, ht1, ht2]
        refine ACall.of (heldNmS_nil _ _) ?_
        simp -dsimp -implicitDefEqProofs (disch := omega) [go_sem, -List.getD_eq_getElem?_getD, ite_yes, ht0, ht1, ht2]
        exact fin_flat rfl rfl
end Go.Proofs.Ytaehphcaiabdmaa
