/- NewlyWet: the law. -/
import Derived.Test.YtamkdgjagjpmlaaNwS
import Derived.Test.YtamkdgjagjpmlaaNwSS
import Derived.Test.YtamkdgjagjpmlaaRecNet
import Derived.Test.YtamkdgjagjpmlaaRecVl
namespace Go.Proofs.Ytamkdgjagjpmlaa
open Go.Am
set_option linter.unusedVariables false
set_option linter.unusedSimpArgs false
set_option maxRecDepth 100000
set_option maxHeartbeats 8000000
theorem newly_small {n : Int} {ps : List Pp} {l : List Vl} {src : Int} {a : List Int} (hg : isOrd n ps l src a = true) {R : List Rw} (e : R.map (·.2.2) = nwL n ps l src a a.length) : R.length ≤ 6 ∧ ∀ r ∈ R, r.2.2.length ≤ 8 := by
  have ho' := hg
  unfold isOrd at ho'
  rw [Bool.and_eq_true] at ho'
  obtain ⟨hq, hob⟩ := ho'
  obtain ⟨hgv, hN, hl10, hsrc, hs6⟩ := askR_at hq
  have hal := (ordB_perm hob).length_eq
  have hl := congrArg List.length e
  rw [List.length_map, nwL_length] at hl
  refine ⟨by omega, fun r hr => ?_⟩
  have : r.2.2 ∈ nwL n ps l src a a.length := by rw [← e]; exact List.mem_map.2 ⟨r, hr, rfl⟩
  exact nwL_small hN.f_n this
theorem _root_.Go.Am.Sl.of_get {α : Type} {f : α → List Value} {H : Heap} {t : Nat} {l : List α} {o : Bool} {e z : Nat} (h : H.get t = some ⟨l.flatMap f, o, e, z⟩) : Sl f H t l := ⟨_, [], h, by simp⟩
theorem weakS_vdrop {H K L : Heap} {fr fr' : Fr} (h : VK H K) (hf : FrW (sg K.length []) K.length fr' fr) : WeakS H fr' K fr (K ++ L) := by
  have := weakS_vmk (L := L) (L' := []) h [] rfl trivial (by simpa using hf)
  rwa [List.append_nil] at this
theorem _root_.Go.Am.VK.flat1 {H K : Heap} {xs : List Value} {o : Bool} {e z : Nat} (h : VK H K) (hx : xs.all flat = true) : VK H (K ++ [some ⟨xs, o, e, z⟩]) :=
  h.trans (VK.snoc (L2.refl fun x hx' => WM_flat (List.all_eq_true.1 hx x hx')))
/-- the heap behind a box that holds a network, and three flat blocks -/
theorem _root_.Go.Am.VK.net4 {H : Heap} {n : Int} {t len c e1 z1 e2 z2 e3 z3 e4 z4 : Nat} {x y z : List Value} {o1 o2 o3 o4 : Bool} (ht : t < H.length) (hx : x.all flat = true) (hy : y.all flat = true) (hz : z.all flat = true) :
    VK H (H ++ [some ⟨[.int .i64 n, .slice (some ⟨t, 0, none⟩) len c], o1, e1, z1⟩, some ⟨x, o2, e2, z2⟩, some ⟨y, o3, e3, z3⟩, some ⟨z, o4, e4, z4⟩]) := by
  have h1 := VK.snoc (K := H) (b := ⟨[.int .i64 n, .slice (some ⟨t, 0, none⟩) len c], o1, e1, z1⟩) (wm_net (h := H.length) ht _ _ (fun t ht => by simp [sg]; omega) (by omega))
  have := ((Go.Am.VK.flat1 (o := o2) (e := e2) (z := z2) h1 hx).flat1 (o := o3) (e := e3) (z := z3) hy).flat1 (o := o4) (e := e4) (z := z4) hz
  simpa [List.append_assoc] using this
theorem _root_.Go.Am.VK.net4' {H : Heap} {n : Int} {len c e1 z1 e2 z2 e3 z3 e4 z4 : Nat} {x y z : List Value} {o1 o2 o3 o4 : Bool} (hx : x.all flat = true) (hy : y.all flat = true) (hz : z.all flat = true) :
    VK H (H ++ [some ⟨x, o1, e1, z1⟩, some ⟨[.int .i64 n, .slice (some ⟨H.length, 0, none⟩) len c], o2, e2, z2⟩, some ⟨y, o3, e3, z3⟩, some ⟨z, o4, e4, z4⟩]) := by
  have h1 := Go.Am.VK.flat1 (o := o1) (e := e1) (z := z1) (VK.refl H) hx
  have h2 := h1.trans (VK.snoc (K := H ++ [some ⟨x, o1, e1, z1⟩]) (b := ⟨[.int .i64 n, .slice (some ⟨H.length, 0, none⟩) len c], o2, e2, z2⟩) (wm_net (h := H.length + 1) (by omega) _ _ (fun t ht => by simp [sg]; omega) (by simp)))
  have := (Go.Am.VK.flat1 (o := o3) (e := e3) (z := z3) h2 hy).flat1 (o := o4) (e := e4) (z := z4) hz
  simpa [List.append_assoc] using this
theorem lawNewlyWet_A (n : Int) (ps : List Pp) (hl0 : ps.length ≤ 9223372036854775807) (c0 : Nat) (l : List Vl) (hl1 : l.length ≤ 9223372036854775807) (c1 : Nat) (src : Int) (a : List Nm) (hl2 : a.length ≤ 9223372036854775807) (c2 : Nat) (H : Heap) (t0 : Nat) (hS0 : Sl ppE H t0 ps) (t1 : Nat) (hS1 : Sl vlE H t1 l) (t2 : Nat) (hS2 : Sl nmE H t2 a) :
    AFunC Try.prog 3 [netV n t0 ps.length c0, .slice (some ⟨t1, 0, none⟩) l.length c1, .int .i64 src, .slice (some ⟨t2, 0, none⟩) a.length c2] H (.bool true) H := by
  refine AFunC.of_body Try.func3 (by kernel_rfl) rfl (by kernel_rfl) (by simp [Try.ntmps3]) ?_
  have ht0 := hS0.lt
  have ht1 := hS1.lt
  have ht2 := hS2.lt
  simp -dsimp -implicitDefEqProofs (disch := omega) [go_sem, -List.getD_eq_getElem?_getD, ite_yes, ht0, ht1, ht2]
  refine AIf.of (fun h => ?_) (fun h => ?_)
  · simp -dsimp -implicitDefEqProofs (disch := omega) [go_sem, -List.getD_eq_getElem?_getD, ite_yes]
    first | exact fin_flat0 rfl rfl | exact fin_flat rfl rfl
  have hlen2 : a.length ≤ 1048577 := by
    have := of_decide_eq_false h
    omega
  simp -dsimp -implicitDefEqProofs (disch := omega) [go_sem, -List.getD_eq_getElem?_getD, ite_yes, ht0, ht1, ht2]
  refine ACall.of (szNet_A n ps.length c0 (by omega) _ (by omega) (by omega) t0 _) ?_
  simp -dsimp -implicitDefEqProofs (disch := omega) [go_sem, -List.getD_eq_getElem?_getD, ite_yes, ht0, ht1, ht2]
  refine AIf.of (fun h => ?_) (fun h => ?_)
  · simp -dsimp -implicitDefEqProofs (disch := omega) [go_sem, -List.getD_eq_getElem?_getD, ite_yes]
    first | exact fin_flat0 rfl rfl | exact fin_flat rfl rfl
  have hlen0 : ps.length ≤ 1048577 := by
    have := szPp_len (by simpa using h)
    omega
  simp -dsimp -implicitDefEqProofs (disch := omega) [go_sem, -List.getD_eq_getElem?_getD, ite_yes, ht0, ht1, ht2]
  have hz0 : 0 ≤ szPp ps.length 1048576 ∧ szPp ps.length 1048576 ≤ 1048576 := szPp_rng (by simpa using h) (by omega)
  refine ACall.of (szVl_A l.length c1 (by omega) _ (by omega) (by omega) t1 _) ?_
  simp -dsimp -implicitDefEqProofs (disch := omega) [go_sem, -List.getD_eq_getElem?_getD, ite_yes, ht0, ht1, ht2]
  refine AIf.of (fun h => ?_) (fun h => ?_)
  · simp -dsimp -implicitDefEqProofs (disch := omega) [go_sem, -List.getD_eq_getElem?_getD, ite_yes]
    first | exact fin_flat0 rfl rfl | exact fin_flat rfl rfl
  have hlen1 : l.length ≤ 1048577 := by
    have := szVl_len (by simpa using h)
    omega
  simp -dsimp -implicitDefEqProofs (disch := omega) [go_sem, -List.getD_eq_getElem?_getD, ite_yes, ht0, ht1, ht2]
  rcases Bool.eq_false_or_eq_true (isOrd n ps l src a) with hg | hg
  · have hmem := fun (R : List Rw) (e : R.map (·.2.2) = nwL n ps l src a a.length) => newly_small hg e
    refine ACall.of (toNet_A n ps hlen0 c0 _ t0 hS0.app) ?_
    simp -dsimp -implicitDefEqProofs (disch := omega) [go_sem, -List.getD_eq_getElem?_getD, ite_yes, ht0, ht1, ht2]
    refine ACall.of (toVlS_A l hlen1 c1 _ t1 hS1.app) ?_
    simp -dsimp -implicitDefEqProofs (disch := omega) [go_sem, -List.getD_eq_getElem?_getD, ite_yes, ht0, ht1, ht2]
    refine ACall.of (toNmS_A a hlen2 c2 _ t2 hS2.app) ?_
    simp -dsimp -implicitDefEqProofs (disch := omega) [go_sem, -List.getD_eq_getElem?_getD, ite_yes, ht0, ht1, ht2]
    refine ACall.via (sNewly_R n ps _ l _ src a hg _ _ _ _ _ (Sl.nth 1 rfl rfl) (Sl.nth 2 rfl rfl) (Sl.nth 3 rfl rfl)) ?_
    rintro _ G1 ⟨W1, uw, rfl, ew, rw1, vk1, kq1⟩
    have q1 : KQ H G1 := KQ.app.trans kq1
    have v1 : VK H G1 := (VK.net4 ht0 (ppE_flat _) (vlE_flat _) (nmE_flat _)).trans vk1
    have l1 : H.length + 4 ≤ G1.length := by simpa using kq1.1
    have cb1 := kq1.cells (t := H.length) (o := 0) (n := 2) (xs := [.int .i64 n, .slice (some ⟨t0, 0, none⟩) ps.length c0]) (by simp) (by simp -dsimp -implicitDefEqProofs (disch := omega) [go_sem, -List.getD_eq_getElem?_getD, ite_yes])
    have kb1 : H.length < G1.length := by omega
    have a0 : t0 < G1.length := by omega
    have a1 : t1 < G1.length := by omega
    have a2 : t2 < G1.length := by omega
    have rw1 : RowsAt G1 H.length uw W1 := rw1.le (by simp)
    clear kq1 vk1
    have uwl := rw1.lt
    simp -dsimp -implicitDefEqProofs (disch := omega) [go_sem, -List.getD_eq_getElem?_getD, ite_yes, a0, a1, a2, cb1, kb1, uwl]
    refine ACall.of (toNet_A n ps hlen0 c0 _ t0 (q1.sl hS0)) ?_
    simp -dsimp -implicitDefEqProofs (disch := omega) [go_sem, -List.getD_eq_getElem?_getD, ite_yes, a0, a1, a2, cb1, kb1, uwl]
    refine ACall.of (toVlS_A l hlen1 c1 _ t1 (q1.sl hS1).app) ?_
    simp -dsimp -implicitDefEqProofs (disch := omega) [go_sem, -List.getD_eq_getElem?_getD, ite_yes, a0, a1, a2, cb1, kb1, uwl]
    refine ACall.of (toNmS_A a hlen2 c2 _ t2 (q1.sl hS2).app) ?_
    simp -dsimp -implicitDefEqProofs (disch := omega) [go_sem, -List.getD_eq_getElem?_getD, ite_yes, a0, a1, a2, cb1, kb1, uwl]
    refine ACall.via (iNewly_R n ps _ l _ src a hg _ _ _ _ _ (Sl.of rfl) (Sl.nth 2 rfl rfl) (Sl.nth 3 rfl rfl)) ?_
    rintro _ G2 ⟨W2, ug, rfl, eg, rg2, vk2, kq2⟩
    have l2 : G1.length + 4 ≤ G2.length := by simpa using kq2.1
    have q12 : KQ G1 G2 := KQ.app.trans kq2
    have v2 : VK H G2 := (v1.trans (VK.net4' (ppE_flat _) (vlE_flat _) (nmE_flat _))).trans vk2
    have cb2 := q12.cells kb1 cb1
    have cx2 := kq2.cells (t := G1.length + 1) (o := 0) (n := 2) (xs := [.int .i64 n, .slice (some ⟨G1.length, 0, none⟩) ps.length ps.length]) (by simp) (by simp -dsimp -implicitDefEqProofs (disch := omega) [go_sem, -List.getD_eq_getElem?_getD, ite_yes])
    have gp2 := kq2.get ((Heap.get_len_add G1 _ 0).trans rfl)
    have gv2 := kq2.get ((Heap.get_len_add G1 _ 2).trans rfl)
    have go2 := kq2.get ((Heap.get_len_add G1 _ 3).trans rfl)
    rw [Nat.add_zero] at gp2
    have rw2 := rw1.kq q12
    have rg2 : RowsAt G2 (G1.length + 4) ug W2 := rg2.le (by simp)
    clear kq2 vk2
    have b0 : t0 < G2.length := by omega
    have b1 : t1 < G2.length := by omega
    have b2 : t2 < G2.length := by omega
    have kb2 : H.length < G2.length := by omega
    have kx2 : G1.length + 1 < G2.length := by omega
    have kp2 : G1.length < G2.length := by omega
    have kv2 : G1.length + 2 < G2.length := by omega
    have ko2 : G1.length + 3 < G2.length := by omega
    have uwl2 := rw2.lt
    have ugl2 := rg2.lt
    have q2 := q1.trans q12
    obtain ⟨n1, m1⟩ := hmem W1 ew
    obtain ⟨n2, m2⟩ := hmem W2 eg
    simp -dsimp -implicitDefEqProofs (disch := omega) [go_sem, -List.getD_eq_getElem?_getD, ite_yes, b0, b1, b2, cb2, kb2, kx2, cx2, uwl2, ugl2]
    refine ACall.of (eqSS_A W2 W1 _ _ (eg.trans ew.symm) (by omega) m2 _ _ _ _ _ rg2 rw2) ?_
    simp -dsimp -implicitDefEqProofs (disch := omega) [go_sem, -List.getD_eq_getElem?_getD, ite_yes, b0, b1, b2, cb2, kb2, kx2, cx2, uwl2, ugl2]
    refine ADraw.mid [(1, .slice (some ⟨t1, 0, none⟩) l.length c1), (2, .int .i64 src), (3, .slice (some ⟨t2, 0, none⟩) a.length c2), (4, .pointer (some ⟨H.length, 0, none⟩)), (10, .slice (some ⟨uw, 0, none⟩) W1.length 0), (11, .bool true), (12, .pointer (some ⟨G1.length + 1, 0, none⟩)), (13, .slice (some ⟨G1.length + 2, 0, none⟩) l.length l.length), (14, .slice (some ⟨G1.length + 3, 0, none⟩) a.length a.length), (15, .slice (some ⟨ug, 0, none⟩) W2.length 0), (16, .bool true), (73, .bool false)] G2 ?_ ?_
    · skip
      refine ADraw.any G2 (by kernel_rfl) (SubH.refl) ?_
      refine AAny.two 4 0 1 (by kernel_rfl) (by kernel_rfl) (by kernel_rfl) ?_ ?_
      · simp -dsimp -implicitDefEqProofs (disch := omega) [go_sem, -List.getD_eq_getElem?_getD, ite_yes, b0, b1, b2, cb2, kb2, kx2, cx2, kp2, kv2, ko2, uwl2, ugl2]
        first | refine AAt.of (by first | exact SubH.refl | exact SubH.app) ?_ | (refine ⟨?_, AAt.of (by first | exact SubH.refl | exact SubH.app) ?_⟩; · omega)
        refine AAny.one 3 1 (by kernel_rfl) (by kernel_rfl) (by kernel_rfl) ?_
        simp -dsimp -implicitDefEqProofs (disch := omega) [go_sem, -List.getD_eq_getElem?_getD, ite_yes, b0, b1, b2, cb2, kb2, kx2, cx2, kp2, kv2, ko2, uwl2, ugl2]
        first | refine AAt.of (by first | exact SubH.refl | exact SubH.app) ?_ | (refine ⟨?_, AAt.of (by first | exact SubH.refl | exact SubH.app) ?_⟩; · omega)
        refine AAny.one 2 2 (by kernel_rfl) (by kernel_rfl) (by kernel_rfl) ?_
        simp -dsimp -implicitDefEqProofs (disch := omega) [go_sem, -List.getD_eq_getElem?_getD, ite_yes, b0, b1, b2, cb2, kb2, kx2, cx2, kp2, kv2, ko2, uwl2, ugl2]
        refine ACall.of (toNet_A n ps hlen0 c0 _ t0 (q2.sl hS0)) ?_
        simp -dsimp -implicitDefEqProofs (disch := omega) [go_sem, -List.getD_eq_getElem?_getD, ite_yes, b0, b1, b2, cb2, kb2, kx2, cx2, kp2, kv2, ko2, uwl2, ugl2]
        first | refine AAt.of (by first | exact SubH.refl | exact SubH.app) ?_ | (refine ⟨?_, AAt.of (by first | exact SubH.refl | exact SubH.app) ?_⟩; · omega)
        refine AAny.one 1 3 (by kernel_rfl) (by kernel_rfl) (by kernel_rfl) ?_
        simp -dsimp -implicitDefEqProofs (disch := omega) [go_sem, -List.getD_eq_getElem?_getD, ite_yes, b0, b1, b2, cb2, kb2, kx2, cx2, kp2, kv2, ko2, uwl2, ugl2]
        refine ACall.of (eqNet_A n n ps ps hlen0 hlen0 _ _ _ _ _ (Sl.of_get gp2).app (Sl.of rfl)) ?_
        simp -dsimp -implicitDefEqProofs (disch := omega) [go_sem, -List.getD_eq_getElem?_getD, ite_yes, b0, b1, b2, cb2, kb2, kx2, cx2, kp2, kv2, ko2, uwl2, ugl2]
        first | refine AAt.of (by first | exact SubH.refl | exact SubH.app) ?_ | (refine ⟨?_, AAt.of (by first | exact SubH.refl | exact SubH.app) ?_⟩; · omega)
        refine AAny.takes (fuel := 0) (by kernel_rfl) (by kernel_rfl) [4] (by kernel_rfl) (by kernel_rfl) ?_
        simp -dsimp -implicitDefEqProofs (disch := omega) [go_sem, -List.getD_eq_getElem?_getD, ite_yes, b0, b1, b2, cb2, kb2, kx2, cx2, kp2, kv2, ko2, uwl2, ugl2]
        refine AAny.done (by kernel_rfl) ?_
        simp -dsimp -implicitDefEqProofs (disch := omega) [go_sem, -List.getD_eq_getElem?_getD, ite_yes, b0, b1, b2, cb2, kb2, kx2, cx2, kp2, kv2, ko2, uwl2, ugl2]
        exact ⟨weakS_vdrop v2 (by simp -dsimp -implicitDefEqProofs (disch := omega) [go_sem, -List.getD_eq_getElem?_getD, ite_yes, b0, b1, b2, kb2, kx2, kp2, kv2, ko2, uwl2, ugl2])⟩
      · simp -dsimp -implicitDefEqProofs (disch := omega) [go_sem, -List.getD_eq_getElem?_getD, ite_yes, b0, b1, b2, cb2, kb2, kx2, cx2, kp2, kv2, ko2, uwl2, ugl2]
        first | refine AAt.of (by first | exact SubH.refl | exact SubH.app) ?_ | (refine ⟨?_, AAt.of (by first | exact SubH.refl | exact SubH.app) ?_⟩; · omega)
        refine AAny.two 3 0 2 (by kernel_rfl) (by kernel_rfl) (by kernel_rfl) ?_ ?_
        · simp -dsimp -implicitDefEqProofs (disch := omega) [go_sem, -List.getD_eq_getElem?_getD, ite_yes, b0, b1, b2, cb2, kb2, kx2, cx2, kp2, kv2, ko2, uwl2, ugl2]
          first | refine AAt.of (by first | exact SubH.refl | exact SubH.app) ?_ | (refine ⟨?_, AAt.of (by first | exact SubH.refl | exact SubH.app) ?_⟩; · omega)
          refine AAny.one 2 2 (by kernel_rfl) (by kernel_rfl) (by kernel_rfl) ?_
          simp -dsimp -implicitDefEqProofs (disch := omega) [go_sem, -List.getD_eq_getElem?_getD, ite_yes, b0, b1, b2, cb2, kb2, kx2, cx2, kp2, kv2, ko2, uwl2, ugl2]
          refine ACall.of (toNet_A n ps hlen0 c0 _ t0 (q2.sl hS0)) ?_
          simp -dsimp -implicitDefEqProofs (disch := omega) [go_sem, -List.getD_eq_getElem?_getD, ite_yes, b0, b1, b2, cb2, kb2, kx2, cx2, kp2, kv2, ko2, uwl2, ugl2]
          first | refine AAt.of (by first | exact SubH.refl | exact SubH.app) ?_ | (refine ⟨?_, AAt.of (by first | exact SubH.refl | exact SubH.app) ?_⟩; · omega)
          refine AAny.one 1 3 (by kernel_rfl) (by kernel_rfl) (by kernel_rfl) ?_
          simp -dsimp -implicitDefEqProofs (disch := omega) [go_sem, -List.getD_eq_getElem?_getD, ite_yes, b0, b1, b2, cb2, kb2, kx2, cx2, kp2, kv2, ko2, uwl2, ugl2]
          refine ACall.of (eqNet_A n n ps ps hlen0 hlen0 _ _ _ _ _ (Sl.of_get gp2).app (Sl.of rfl)) ?_
          simp -dsimp -implicitDefEqProofs (disch := omega) [go_sem, -List.getD_eq_getElem?_getD, ite_yes, b0, b1, b2, cb2, kb2, kx2, cx2, kp2, kv2, ko2, uwl2, ugl2]
          first | refine AAt.of (by first | exact SubH.refl | exact SubH.app) ?_ | (refine ⟨?_, AAt.of (by first | exact SubH.refl | exact SubH.app) ?_⟩; · omega)
          refine AAny.takes (fuel := 0) (by kernel_rfl) (by kernel_rfl) [4] (by kernel_rfl) (by kernel_rfl) ?_
          simp -dsimp -implicitDefEqProofs (disch := omega) [go_sem, -List.getD_eq_getElem?_getD, ite_yes, b0, b1, b2, cb2, kb2, kx2, cx2, kp2, kv2, ko2, uwl2, ugl2]
          refine AAny.done (by kernel_rfl) ?_
          simp -dsimp -implicitDefEqProofs (disch := omega) [go_sem, -List.getD_eq_getElem?_getD, ite_yes, b0, b1, b2, cb2, kb2, kx2, cx2, kp2, kv2, ko2, uwl2, ugl2]
          exact ⟨weakS_vdrop v2 (by simp -dsimp -implicitDefEqProofs (disch := omega) [go_sem, -List.getD_eq_getElem?_getD, ite_yes, b0, b1, b2, kb2, kx2, kp2, kv2, ko2, uwl2, ugl2])⟩
        · simp -dsimp -implicitDefEqProofs (disch := omega) [go_sem, -List.getD_eq_getElem?_getD, ite_yes, b0, b1, b2, cb2, kb2, kx2, cx2, kp2, kv2, ko2, uwl2, ugl2]
          refine ACall.of (toNet_A n ps hlen0 c0 _ t0 (q2.sl hS0)) ?_
          simp -dsimp -implicitDefEqProofs (disch := omega) [go_sem, -List.getD_eq_getElem?_getD, ite_yes, b0, b1, b2, cb2, kb2, kx2, cx2, kp2, kv2, ko2, uwl2, ugl2]
          first | refine AAt.of (by first | exact SubH.refl | exact SubH.app) ?_ | (refine ⟨?_, AAt.of (by first | exact SubH.refl | exact SubH.app) ?_⟩; · omega)
          refine AAny.one 2 0 (by kernel_rfl) (by kernel_rfl) (by kernel_rfl) ?_
          simp -dsimp -implicitDefEqProofs (disch := omega) [go_sem, -List.getD_eq_getElem?_getD, ite_yes, b0, b1, b2, cb2, kb2, kx2, cx2, kp2, kv2, ko2, uwl2, ugl2]
          first | refine AAt.of (by first | exact SubH.refl | exact SubH.app) ?_ | (refine ⟨?_, AAt.of (by first | exact SubH.refl | exact SubH.app) ?_⟩; · omega)
          refine AAny.one 1 3 (by kernel_rfl) (by kernel_rfl) (by kernel_rfl) ?_
          simp -dsimp -implicitDefEqProofs (disch := omega) [go_sem, -List.getD_eq_getElem?_getD, ite_yes, b0, b1, b2, cb2, kb2, kx2, cx2, kp2, kv2, ko2, uwl2, ugl2]
          refine ACall.of (eqNet_A n n ps ps hlen0 hlen0 _ _ _ _ _ (Sl.of_get gp2).app (Sl.of rfl)) ?_
          simp -dsimp -implicitDefEqProofs (disch := omega) [go_sem, -List.getD_eq_getElem?_getD, ite_yes, b0, b1, b2, cb2, kb2, kx2, cx2, kp2, kv2, ko2, uwl2, ugl2]
          first | refine AAt.of (by first | exact SubH.refl | exact SubH.app) ?_ | (refine ⟨?_, AAt.of (by first | exact SubH.refl | exact SubH.app) ?_⟩; · omega)
          refine AAny.takes (fuel := 0) (by kernel_rfl) (by kernel_rfl) [4] (by kernel_rfl) (by kernel_rfl) ?_
          simp -dsimp -implicitDefEqProofs (disch := omega) [go_sem, -List.getD_eq_getElem?_getD, ite_yes, b0, b1, b2, cb2, kb2, kx2, cx2, kp2, kv2, ko2, uwl2, ugl2]
          refine AAny.done (by kernel_rfl) ?_
          simp -dsimp -implicitDefEqProofs (disch := omega) [go_sem, -List.getD_eq_getElem?_getD, ite_yes, b0, b1, b2, cb2, kb2, kx2, cx2, kp2, kv2, ko2, uwl2, ugl2]
          exact ⟨weakS_vdrop v2 (by simp -dsimp -implicitDefEqProofs (disch := omega) [go_sem, -List.getD_eq_getElem?_getD, ite_yes, b0, b1, b2, kb2, kx2, kp2, kv2, ko2, uwl2, ugl2])⟩
    simp -dsimp -implicitDefEqProofs (disch := omega) [go_sem, -List.getD_eq_getElem?_getD, ite_yes, b0, b1, b2, cb2, kb2, kx2, cx2, kp2, kv2, ko2, uwl2, ugl2]
    refine ACall.of (toVlS_A l hlen1 c1 _ t1 (q2.sl hS1)) ?_
    simp -dsimp -implicitDefEqProofs (disch := omega) [go_sem, -List.getD_eq_getElem?_getD, ite_yes, b0, b1, b2, cb2, kb2, kx2, cx2, kp2, kv2, ko2, uwl2, ugl2]
    refine ACall.of (eqVlS_A l l hlen1 hlen1 _ _ _ _ _ (Sl.of_get gv2).app (Sl.of rfl)) ?_
    simp -dsimp -implicitDefEqProofs (disch := omega) [go_sem, -List.getD_eq_getElem?_getD, ite_yes, b0, b1, b2, cb2, kb2, kx2, cx2, kp2, kv2, ko2, uwl2, ugl2]
    refine ACall.of (toNmS_A a hlen2 c2 _ t2 (q2.sl hS2).app) ?_
    simp -dsimp -implicitDefEqProofs (disch := omega) [go_sem, -List.getD_eq_getElem?_getD, ite_yes, b0, b1, b2, cb2, kb2, kx2, cx2, kp2, kv2, ko2, uwl2, ugl2]
    refine ACall.of (eqNmS_A a a hlen2 hlen2 _ _ _ _ _ (Sl.of_get go2).app (Sl.nth 1 rfl rfl)) ?_
    simp -dsimp -implicitDefEqProofs (disch := omega) [go_sem, -List.getD_eq_getElem?_getD, ite_yes, b0, b1, b2, cb2, kb2, kx2, cx2, kp2, kv2, ko2, uwl2, ugl2]
    refine ACall.via (markNet_A n ps hlen0 _ _ _ (by omega) (by omega) _ _ ((Heap.get_append_left kp2).trans gp2)).rel ?_
    rintro _ G3 ⟨rfl, e3⟩
    have l3 : G3.length = G2.length + 2 := by rw [e3]; simp
    have h3 : ∀ t, t < G2.length → t ≠ G1.length → G3.get t = G2.get t := fun t ht hne => by rw [e3, Heap.get_set_ne hne, Heap.get_append_left ht]
    clear e3
    simp -dsimp -implicitDefEqProofs (disch := omega) [go_sem, -List.getD_eq_getElem?_getD, ite_yes]
    refine ACall.via (markVlS_A l hlen1 _ _ _ (by omega) (by omega) _ _ ((h3 _ kv2 (by omega)).trans gv2)).rel ?_
    rintro _ G4 ⟨rfl, e4⟩
    have l4 : G4.length = G2.length + 2 := by rw [e4]; simp [l3]
    have h4 : ∀ t, t < G2.length → t ≠ G1.length → t ≠ G1.length + 2 → G4.get t = G2.get t := fun t ht h1 h2 => by rw [e4, Heap.get_set_ne h2, h3 t ht h1]
    clear e4
    simp -dsimp -implicitDefEqProofs (disch := omega) [go_sem, -List.getD_eq_getElem?_getD, ite_yes]
    refine ACall.via (markNmS_A a hlen2 _ _ _ (by omega) (by omega) _ _ ((h4 _ ko2 (by omega) (by omega)).trans go2)).rel ?_
    rintro _ G5 ⟨rfl, e5⟩
    have l5 : G5.length = G2.length + 2 := by rw [e5]; simp [l4]
    have h5 : ∀ t, t < G2.length → t ≠ G1.length → t ≠ G1.length + 2 → t ≠ G1.length + 3 → G5.get t = G2.get t := fun t ht h1 h2 h3 => by rw [e5, Heap.get_set_ne h3, h4 t ht h1 h2]
    clear e5 h3 h4
    have h15 : ∀ t, t < G1.length → G5.get t = G1.get t := fun t ht => (h5 t (by omega) (by omega) (by omega) (by omega)).trans (q12.2 t ht)
    have rw5 := rw1.of fun t _ ht => h15 t ht
    have rg5 := rg2.of fun t h1 ht => h5 t ht (by omega) (by omega) (by omega)
    simp -dsimp -implicitDefEqProofs (disch := omega) [go_sem, -List.getD_eq_getElem?_getD, ite_yes]
    refine AIf.of (fun h => absurd (of_decide_eq_true h) (by omega)) (fun _ => ?_)
    simp -dsimp -implicitDefEqProofs (disch := omega) [go_sem, -List.getD_eq_getElem?_getD, ite_yes]
    refine ACall.of (eqSS_A W2 W1 _ _ (eg.trans ew.symm) (by omega) m2 _ _ _ _ _ rg5 rw5) ?_
    simp -dsimp -implicitDefEqProofs (disch := omega) [go_sem, -List.getD_eq_getElem?_getD, ite_yes]
    refine ACall.via (markSS_A W2 _ (by omega) m2 _ 1 (by omega) (by omega) _ _ rg5).rel ?_
    rintro _ G6 ⟨rfl, e6⟩
    have l6 : G6.length = G2.length + 2 := by rw [e6, mkH_length]; exact l5
    have h16 : ∀ t, t < G1.length → G6.get t = G1.get t := fun t ht => by
      rw [e6, mkH_get (fun r hr => by have := (rg5.row r hr).1; omega) _ (Nat.le_refl _), h15 t ht]
    have rg6 := rg5.marked (k0 := 1) W2.length (Nat.le_refl _)
    rw [← e6] at rg6
    clear e6
    have rw6 := rw1.of fun t _ ht => h16 t ht
    have pl := preN_le m2 W2.length (Nat.le_refl _)
    simp -dsimp -implicitDefEqProofs (disch := omega) [go_sem, -List.getD_eq_getElem?_getD, ite_yes]
    refine ACall.of (heldSS_A W2 _ (by omega) m2 _ 1 (by omega) (by omega) _ _ rg6) ?_
    simp -dsimp -implicitDefEqProofs (disch := omega) [go_sem, -List.getD_eq_getElem?_getD, ite_yes]
    try (refine AIf.of (fun h => absurd (of_decide_eq_true h) (by omega)) (fun _ => ?_); simp -dsimp -implicitDefEqProofs (disch := omega) [go_sem, -List.getD_eq_getElem?_getD, ite_yes])
    have q6 : KQ H G6 := ⟨by omega, fun t ht => (h16 t (by omega)).trans (q1.2 t ht)⟩
    have cb6 := (cells_of (h16 _ kb1)).trans cb1
    have d0 : t0 < G6.length := by omega
    have d1 : t1 < G6.length := by omega
    have d2 : t2 < G6.length := by omega
    have kb6 : H.length < G6.length := by omega
    simp -dsimp -implicitDefEqProofs (disch := omega) [go_sem, -List.getD_eq_getElem?_getD, ite_yes, d0, d1, d2, cb6, kb6]
    refine ACall.of (toNet_A n ps hlen0 c0 _ t0 (q6.sl hS0)) ?_
    simp -dsimp -implicitDefEqProofs (disch := omega) [go_sem, -List.getD_eq_getElem?_getD, ite_yes, d0, d1, d2, cb6, kb6]
    refine ACall.of (toVlS_A l hlen1 c1 _ t1 (q6.sl hS1).app) ?_
    simp -dsimp -implicitDefEqProofs (disch := omega) [go_sem, -List.getD_eq_getElem?_getD, ite_yes, d0, d1, d2, cb6, kb6]
    refine ACall.of (toNmS_A a hlen2 c2 _ t2 (q6.sl hS2).app) ?_
    simp -dsimp -implicitDefEqProofs (disch := omega) [go_sem, -List.getD_eq_getElem?_getD, ite_yes, d0, d1, d2, cb6, kb6]
    refine ACall.via (iNewly_R n ps _ l _ src a hg _ _ _ _ _ (Sl.of rfl) (Sl.nth 1 rfl rfl) (Sl.nth 2 rfl rfl)) ?_
    rintro _ G7 ⟨W3, uh, rfl, eh, rh7, vk7, kq7⟩
    have q67 : KQ G6 G7 := KQ.app.trans kq7
    have rw7 := rw6.kq q67
    have rg7 := rg6.kq q67
    obtain ⟨n3, m3⟩ := hmem W3 eh
    simp -dsimp -implicitDefEqProofs (disch := omega) [go_sem, -List.getD_eq_getElem?_getD, ite_yes]
    refine ACall.of (eqSS_A W3 W1 _ _ (eh.trans ew.symm) (by omega) m3 _ _ _ _ _ rh7 rw7) ?_
    simp -dsimp -implicitDefEqProofs (disch := omega) [go_sem, -List.getD_eq_getElem?_getD, ite_yes]
    refine ACall.of (heldSS_A W2 _ (by omega) m2 _ 1 (by omega) (by omega) _ _ rg7) ?_
    simp -dsimp -implicitDefEqProofs (disch := omega) [go_sem, -List.getD_eq_getElem?_getD, ite_yes]
    try (refine AIf.of (fun h => absurd (of_decide_eq_true h) (by omega)) (fun _ => ?_); simp -dsimp -implicitDefEqProofs (disch := omega) [go_sem, -List.getD_eq_getElem?_getD, ite_yes])
    exact fin_kq (fun t ht => ((q6.trans q67).2 t ht)) rfl
  · skip
    refine ACall.of (toNet_A n ps hlen0 c0 _ t0 hS0.app) ?_
    simp -dsimp -implicitDefEqProofs (disch := omega) [go_sem, -List.getD_eq_getElem?_getD, ite_yes, ht0, ht1, ht2]
    refine ACall.of (toVlS_A l hlen1 c1 _ t1 hS1.app) ?_
    simp -dsimp -implicitDefEqProofs (disch := omega) [go_sem, -List.getD_eq_getElem?_getD, ite_yes, ht0, ht1, ht2]
    refine ACall.of (toNmS_A a hlen2 c2 _ t2 hS2.app) ?_
    simp -dsimp -implicitDefEqProofs (disch := omega) [go_sem, -List.getD_eq_getElem?_getD, ite_yes, ht0, ht1, ht2]
    refine ACall.of (sNewly_bad n ps hlen0 _ l hlen1 _ src a hlen2 hg _ _ _ _ _ (Sl.nth 1 rfl rfl) (Sl.nth 2 rfl rfl) (Sl.nth 3 rfl rfl)) ?_
    simp -dsimp -implicitDefEqProofs (disch := omega) [go_sem, -List.getD_eq_getElem?_getD, ite_yes, ht0, ht1, ht2]
    refine ACall.of (toNet_A n ps hlen0 c0 _ t0 hS0.app) ?_
    simp -dsimp -implicitDefEqProofs (disch := omega) [go_sem, -List.getD_eq_getElem?_getD, ite_yes, ht0, ht1, ht2]
    refine ACall.of (toVlS_A l hlen1 c1 _ t1 hS1.app) ?_
    simp -dsimp -implicitDefEqProofs (disch := omega) [go_sem, -List.getD_eq_getElem?_getD, ite_yes, ht0, ht1, ht2]
    refine ACall.of (toNmS_A a hlen2 c2 _ t2 hS2.app) ?_
    simp -dsimp -implicitDefEqProofs (disch := omega) [go_sem, -List.getD_eq_getElem?_getD, ite_yes, ht0, ht1, ht2]
    refine ACall.of (iNewly_bad n ps hlen0 _ l hlen1 _ src a hlen2 hg _ _ _ _ _ (Sl.nth 5 rfl rfl) (Sl.nth 7 rfl rfl) (Sl.nth 8 rfl rfl)) ?_
    simp -dsimp -implicitDefEqProofs (disch := omega) [go_sem, -List.getD_eq_getElem?_getD, ite_yes, ht0, ht1, ht2]
    refine ACall.of (eqSS_nil _ _ _) ?_
    simp -dsimp -implicitDefEqProofs (disch := omega) [go_sem, -List.getD_eq_getElem?_getD, ite_yes, ht0, ht1, ht2]
    refine ADraw.any _ (by kernel_rfl) (SubH.refl) ?_
    refine AAny.two 4 0 1 (by kernel_rfl) (by kernel_rfl) (by kernel_rfl) ?_ ?_
    · simp -dsimp -implicitDefEqProofs (disch := omega) [go_sem, -List.getD_eq_getElem?_getD, ite_yes, ht0, ht1, ht2]
      first | refine AAt.of (by first | exact SubH.refl | exact SubH.app | exact SubH.both (by simp [subL])) ?_ | (refine ⟨?_, AAt.of (by first | exact SubH.refl | exact SubH.app | exact SubH.both (by simp [subL])) ?_⟩; · omega)
      refine AAny.one 3 1 (by kernel_rfl) (by kernel_rfl) (by kernel_rfl) ?_
      simp -dsimp -implicitDefEqProofs (disch := omega) [go_sem, -List.getD_eq_getElem?_getD, ite_yes, ht0, ht1, ht2]
      first | refine AAt.of (by first | exact SubH.refl | exact SubH.app | exact SubH.both (by simp [subL])) ?_ | (refine ⟨?_, AAt.of (by first | exact SubH.refl | exact SubH.app | exact SubH.both (by simp [subL])) ?_⟩; · omega)
      refine AAny.one 2 2 (by kernel_rfl) (by kernel_rfl) (by kernel_rfl) ?_
      simp -dsimp -implicitDefEqProofs (disch := omega) [go_sem, -List.getD_eq_getElem?_getD, ite_yes, ht0, ht1, ht2]
      refine ACall.of (toNet_A n ps hlen0 c0 _ t0 hS0.app) ?_
      simp -dsimp -implicitDefEqProofs (disch := omega) [go_sem, -List.getD_eq_getElem?_getD, ite_yes, ht0, ht1, ht2]
      first | refine AAt.of (by first | exact SubH.refl | exact SubH.app | exact SubH.both (by simp [subL])) ?_ | (refine ⟨?_, AAt.of (by first | exact SubH.refl | exact SubH.app | exact SubH.both (by simp [subL])) ?_⟩; · omega)
      refine AAny.one 1 3 (by kernel_rfl) (by kernel_rfl) (by kernel_rfl) ?_
      simp -dsimp -implicitDefEqProofs (disch := omega) [go_sem, -List.getD_eq_getElem?_getD, ite_yes, ht0, ht1, ht2]
      refine ACall.of (eqNet_A n n ps ps hlen0 hlen0 _ _ _ _ _ (Sl.nth 5 rfl rfl) (Sl.nth 9 rfl rfl)) ?_
      simp -dsimp -implicitDefEqProofs (disch := omega) [go_sem, -List.getD_eq_getElem?_getD, ite_yes, ht0, ht1, ht2]
      first | refine AAt.of (by first | exact SubH.refl | exact SubH.app | exact SubH.both (by simp [subL])) ?_ | (refine ⟨?_, AAt.of (by first | exact SubH.refl | exact SubH.app | exact SubH.both (by simp [subL])) ?_⟩; · omega)
      refine AAny.takes (fuel := 0) (by kernel_rfl) (by kernel_rfl) [4] (by kernel_rfl) (by kernel_rfl) ?_
      simp -dsimp -implicitDefEqProofs (disch := omega) [go_sem, -List.getD_eq_getElem?_getD, ite_yes, ht0, ht1, ht2]
      refine AAny.done (by kernel_rfl) ?_
      simp -dsimp -implicitDefEqProofs (disch := omega) [go_sem, -List.getD_eq_getElem?_getD, ite_yes, ht0, ht1, ht2]
      refine ACall.of (toVlS_A l hlen1 c1 _ t1 hS1.app) ?_
      simp -dsimp -implicitDefEqProofs (disch := omega) [go_sem, -List.getD_eq_getElem?_getD, ite_yes, ht0, ht1, ht2]
      refine ACall.of (eqVlS_A l l hlen1 hlen1 _ _ _ _ _ (Sl.nth 7 rfl rfl) (Sl.nth 10 rfl rfl)) ?_
      simp -dsimp -implicitDefEqProofs (disch := omega) [go_sem, -List.getD_eq_getElem?_getD, ite_yes, ht0, ht1, ht2]
      refine ACall.of (toNmS_A a hlen2 c2 _ t2 hS2.app) ?_
      simp -dsimp -implicitDefEqProofs (disch := omega) [go_sem, -List.getD_eq_getElem?_getD, ite_yes, ht0, ht1, ht2]
      refine ACall.of (eqNmS_A a a hlen2 hlen2 _ _ _ _ _ (Sl.nth 8 rfl rfl) (Sl.nth 11 rfl rfl)) ?_
      simp -dsimp -implicitDefEqProofs (disch := omega) [go_sem, -List.getD_eq_getElem?_getD, ite_yes, ht0, ht1, ht2]
      refine ACall.of (markNet_A n ps hlen0 _ _ _ (by omega) (by omega) _ _ ((Heap.get_len_add _ _ 5).trans rfl)) ?_
      simp -dsimp -implicitDefEqProofs (disch := omega) [go_sem, -List.getD_eq_getElem?_getD, ite_yes, ht0, ht1, ht2]
      refine ACall.of (markVlS_A l hlen1 _ _ _ (by omega) (by omega) _ _ ((Heap.get_len_add _ _ 7).trans rfl)) ?_
      simp -dsimp -implicitDefEqProofs (disch := omega) [go_sem, -List.getD_eq_getElem?_getD, ite_yes, ht0, ht1, ht2]
      refine ACall.of (markNmS_A a hlen2 _ _ _ (by omega) (by omega) _ _ ((Heap.get_len_add _ _ 8).trans rfl)) ?_
      simp -dsimp -implicitDefEqProofs (disch := omega) [go_sem, -List.getD_eq_getElem?_getD, ite_yes, ht0, ht1, ht2]
      refine AIf.of (fun h => absurd (of_decide_eq_true h) (by omega)) (fun _ => ?_)
      simp -dsimp -implicitDefEqProofs (disch := omega) [go_sem, -List.getD_eq_getElem?_getD, ite_yes, ht0, ht1, ht2]
      refine ACall.of (eqSS_nil _ _ _) ?_
      simp -dsimp -implicitDefEqProofs (disch := omega) [go_sem, -List.getD_eq_getElem?_getD, ite_yes, ht0, ht1, ht2]
      refine ACall.of (markSS_nil _ _) ?_
      simp -dsimp -implicitDefEqProofs (disch := omega) [go_sem, -List.getD_eq_getElem?_getD, ite_yes, ht0, ht1, ht2]
      refine ACall.of (heldSS_nil _ _) ?_
      simp -dsimp -implicitDefEqProofs (disch := omega) [go_sem, -List.getD_eq_getElem?_getD, ite_yes, ht0, ht1, ht2]
      refine ACall.of (toNet_A n ps hlen0 c0 _ t0 hS0.app) ?_
      simp -dsimp -implicitDefEqProofs (disch := omega) [go_sem, -List.getD_eq_getElem?_getD, ite_yes, ht0, ht1, ht2]
      refine ACall.of (toVlS_A l hlen1 c1 _ t1 hS1.app) ?_
      simp -dsimp -implicitDefEqProofs (disch := omega) [go_sem, -List.getD_eq_getElem?_getD, ite_yes, ht0, ht1, ht2]
      refine ACall.of (toNmS_A a hlen2 c2 _ t2 hS2.app) ?_
      simp -dsimp -implicitDefEqProofs (disch := omega) [go_sem, -List.getD_eq_getElem?_getD, ite_yes, ht0, ht1, ht2]
      refine ACall.of (iNewly_bad n ps hlen0 _ l hlen1 _ src a hlen2 hg _ _ _ _ _ (Sl.nth 12 rfl rfl) (Sl.nth 13 rfl rfl) (Sl.nth 14 rfl rfl)) ?_
      simp -dsimp -implicitDefEqProofs (disch := omega) [go_sem, -List.getD_eq_getElem?_getD, ite_yes, ht0, ht1, ht2]
      refine ACall.of (eqSS_nil _ _ _) ?_
      simp -dsimp -implicitDefEqProofs (disch := omega) [go_sem, -List.getD_eq_getElem?_getD, ite_yes, ht0, ht1, ht2]
      refine ACall.of (heldSS_nil _ _) ?_
      simp -dsimp -implicitDefEqProofs (disch := omega) [go_sem, -List.getD_eq_getElem?_getD, ite_yes, ht0, ht1, ht2]
      exact fin_flat rfl rfl
    · simp -dsimp -implicitDefEqProofs (disch := omega) [go_sem, -List.getD_eq_getElem?_getD, ite_yes, ht0, ht1, ht2]
      first | refine AAt.of (by first | exact SubH.refl | exact SubH.app | exact SubH.both (by simp [subL])) ?_ | (refine ⟨?_, AAt.of (by first | exact SubH.refl | exact SubH.app | exact SubH.both (by simp [subL])) ?_⟩; · omega)
      refine AAny.two 3 0 2 (by kernel_rfl) (by kernel_rfl) (by kernel_rfl) ?_ ?_
      · simp -dsimp -implicitDefEqProofs (disch := omega) [go_sem, -List.getD_eq_getElem?_getD, ite_yes, ht0, ht1, ht2]
        first | refine AAt.of (by first | exact SubH.refl | exact SubH.app | exact SubH.both (by simp [subL])) ?_ | (refine ⟨?_, AAt.of (by first | exact SubH.refl | exact SubH.app | exact SubH.both (by simp [subL])) ?_⟩; · omega)
        refine AAny.one 2 2 (by kernel_rfl) (by kernel_rfl) (by kernel_rfl) ?_
        simp -dsimp -implicitDefEqProofs (disch := omega) [go_sem, -List.getD_eq_getElem?_getD, ite_yes, ht0, ht1, ht2]
        refine ACall.of (toNet_A n ps hlen0 c0 _ t0 hS0.app) ?_
        simp -dsimp -implicitDefEqProofs (disch := omega) [go_sem, -List.getD_eq_getElem?_getD, ite_yes, ht0, ht1, ht2]
        first | refine AAt.of (by first | exact SubH.refl | exact SubH.app | exact SubH.both (by simp [subL])) ?_ | (refine ⟨?_, AAt.of (by first | exact SubH.refl | exact SubH.app | exact SubH.both (by simp [subL])) ?_⟩; · omega)
        refine AAny.one 1 3 (by kernel_rfl) (by kernel_rfl) (by kernel_rfl) ?_
        simp -dsimp -implicitDefEqProofs (disch := omega) [go_sem, -List.getD_eq_getElem?_getD, ite_yes, ht0, ht1, ht2]
        refine ACall.of (eqNet_A n n ps ps hlen0 hlen0 _ _ _ _ _ (Sl.nth 5 rfl rfl) (Sl.nth 9 rfl rfl)) ?_
        simp -dsimp -implicitDefEqProofs (disch := omega) [go_sem, -List.getD_eq_getElem?_getD, ite_yes, ht0, ht1, ht2]
        first | refine AAt.of (by first | exact SubH.refl | exact SubH.app | exact SubH.both (by simp [subL])) ?_ | (refine ⟨?_, AAt.of (by first | exact SubH.refl | exact SubH.app | exact SubH.both (by simp [subL])) ?_⟩; · omega)
        refine AAny.takes (fuel := 0) (by kernel_rfl) (by kernel_rfl) [4] (by kernel_rfl) (by kernel_rfl) ?_
        simp -dsimp -implicitDefEqProofs (disch := omega) [go_sem, -List.getD_eq_getElem?_getD, ite_yes, ht0, ht1, ht2]
        refine AAny.done (by kernel_rfl) ?_
        simp -dsimp -implicitDefEqProofs (disch := omega) [go_sem, -List.getD_eq_getElem?_getD, ite_yes, ht0, ht1, ht2]
        refine ACall.of (toVlS_A l hlen1 c1 _ t1 hS1.app) ?_
        simp -dsimp -implicitDefEqProofs (disch := omega) [go_sem, -List.getD_eq_getElem?_getD, ite_yes, ht0, ht1, ht2]
        refine ACall.of (eqVlS_A l l hlen1 hlen1 _ _ _ _ _ (Sl.nth 7 rfl rfl) (Sl.nth 10 rfl rfl)) ?_
        simp -dsimp -implicitDefEqProofs (disch := omega) [go_sem, -List.getD_eq_getElem?_getD, ite_yes, ht0, ht1, ht2]
        refine ACall.of (toNmS_A a hlen2 c2 _ t2 hS2.app) ?_
        simp -dsimp -implicitDefEqProofs (disch := omega) [go_sem, -List.getD_eq_getElem?_getD, ite_yes, ht0, ht1, ht2]
        refine ACall.of (eqNmS_A a a hlen2 hlen2 _ _ _ _ _ (Sl.nth 8 rfl rfl) (Sl.nth 11 rfl rfl)) ?_
        simp -dsimp -implicitDefEqProofs (disch := omega) [go_sem, -List.getD_eq_getElem?_getD, ite_yes, ht0, ht1, ht2]
        refine ACall.of (markNet_A n ps hlen0 _ _ _ (by omega) (by omega) _ _ ((Heap.get_len_add _ _ 5).trans rfl)) ?_
        simp -dsimp -implicitDefEqProofs (disch := omega) [go_sem, -List.getD_eq_getElem?_getD, ite_yes, ht0, ht1, ht2]
        refine ACall.of (markVlS_A l hlen1 _ _ _ (by omega) (by omega) _ _ ((Heap.get_len_add _ _ 7).trans rfl)) ?_
        simp -dsimp -implicitDefEqProofs (disch := omega) [go_sem, -List.getD_eq_getElem?_getD, ite_yes, ht0, ht1, ht2]
        refine ACall.of (markNmS_A a hlen2 _ _ _ (by omega) (by omega) _ _ ((Heap.get_len_add _ _ 8).trans rfl)) ?_
        simp -dsimp -implicitDefEqProofs (disch := omega) [go_sem, -List.getD_eq_getElem?_getD, ite_yes, ht0, ht1, ht2]
        refine AIf.of (fun h => absurd (of_decide_eq_true h) (by omega)) (fun _ => ?_)
        simp -dsimp -implicitDefEqProofs (disch := omega) [go_sem, -List.getD_eq_getElem?_getD, ite_yes, ht0, ht1, ht2]
        refine ACall.of (eqSS_nil _ _ _) ?_
        simp -dsimp -implicitDefEqProofs (disch := omega) [go_sem, -List.getD_eq_getElem?_getD, ite_yes, ht0, ht1, ht2]
        refine ACall.of (markSS_nil _ _) ?_
        simp -dsimp -implicitDefEqProofs (disch := omega) [go_sem, -List.getD_eq_getElem?_getD, ite_yes, ht0, ht1, ht2]
        refine ACall.of (heldSS_nil _ _) ?_
        simp -dsimp -implicitDefEqProofs (disch := omega) [go_sem, -List.getD_eq_getElem?_getD, ite_yes, ht0, ht1, ht2]
        refine ACall.of (toNet_A n ps hlen0 c0 _ t0 hS0.app) ?_
        simp -dsimp -implicitDefEqProofs (disch := omega) [go_sem, -List.getD_eq_getElem?_getD, ite_yes, ht0, ht1, ht2]
        refine ACall.of (toVlS_A l hlen1 c1 _ t1 hS1.app) ?_
        simp -dsimp -implicitDefEqProofs (disch := omega) [go_sem, -List.getD_eq_getElem?_getD, ite_yes, ht0, ht1, ht2]
        refine ACall.of (toNmS_A a hlen2 c2 _ t2 hS2.app) ?_
        simp -dsimp -implicitDefEqProofs (disch := omega) [go_sem, -List.getD_eq_getElem?_getD, ite_yes, ht0, ht1, ht2]
        refine ACall.of (iNewly_bad n ps hlen0 _ l hlen1 _ src a hlen2 hg _ _ _ _ _ (Sl.nth 12 rfl rfl) (Sl.nth 13 rfl rfl) (Sl.nth 14 rfl rfl)) ?_
        simp -dsimp -implicitDefEqProofs (disch := omega) [go_sem, -List.getD_eq_getElem?_getD, ite_yes, ht0, ht1, ht2]
        refine ACall.of (eqSS_nil _ _ _) ?_
        simp -dsimp -implicitDefEqProofs (disch := omega) [go_sem, -List.getD_eq_getElem?_getD, ite_yes, ht0, ht1, ht2]
        refine ACall.of (heldSS_nil _ _) ?_
        simp -dsimp -implicitDefEqProofs (disch := omega) [go_sem, -List.getD_eq_getElem?_getD, ite_yes, ht0, ht1, ht2]
        exact fin_flat rfl rfl
      · simp -dsimp -implicitDefEqProofs (disch := omega) [go_sem, -List.getD_eq_getElem?_getD, ite_yes, ht0, ht1, ht2]
        refine ACall.of (toNet_A n ps hlen0 c0 _ t0 hS0.app) ?_
        simp -dsimp -implicitDefEqProofs (disch := omega) [go_sem, -List.getD_eq_getElem?_getD, ite_yes, ht0, ht1, ht2]
        first | refine AAt.of (by first | exact SubH.refl | exact SubH.app | exact SubH.both (by simp [subL])) ?_ | (refine ⟨?_, AAt.of (by first | exact SubH.refl | exact SubH.app | exact SubH.both (by simp [subL])) ?_⟩; · omega)
        refine AAny.one 2 0 (by kernel_rfl) (by kernel_rfl) (by kernel_rfl) ?_
        simp -dsimp -implicitDefEqProofs (disch := omega) [go_sem, -List.getD_eq_getElem?_getD, ite_yes, ht0, ht1, ht2]
        first | refine AAt.of (by first | exact SubH.refl | exact SubH.app | exact SubH.both (by simp [subL])) ?_ | (refine ⟨?_, AAt.of (by first | exact SubH.refl | exact SubH.app | exact SubH.both (by simp [subL])) ?_⟩; · omega)
        refine AAny.one 1 3 (by kernel_rfl) (by kernel_rfl) (by kernel_rfl) ?_
        simp -dsimp -implicitDefEqProofs (disch := omega) [go_sem, -List.getD_eq_getElem?_getD, ite_yes, ht0, ht1, ht2]
        refine ACall.of (eqNet_A n n ps ps hlen0 hlen0 _ _ _ _ _ (Sl.nth 5 rfl rfl) (Sl.nth 9 rfl rfl)) ?_
        simp -dsimp -implicitDefEqProofs (disch := omega) [go_sem, -List.getD_eq_getElem?_getD, ite_yes, ht0, ht1, ht2]
        first | refine AAt.of (by first | exact SubH.refl | exact SubH.app | exact SubH.both (by simp [subL])) ?_ | (refine ⟨?_, AAt.of (by first | exact SubH.refl | exact SubH.app | exact SubH.both (by simp [subL])) ?_⟩; · omega)
        refine AAny.takes (fuel := 0) (by kernel_rfl) (by kernel_rfl) [4] (by kernel_rfl) (by kernel_rfl) ?_
        simp -dsimp -implicitDefEqProofs (disch := omega) [go_sem, -List.getD_eq_getElem?_getD, ite_yes, ht0, ht1, ht2]
        refine AAny.done (by kernel_rfl) ?_
        simp -dsimp -implicitDefEqProofs (disch := omega) [go_sem, -List.getD_eq_getElem?_getD, ite_yes, ht0, ht1, ht2]
        refine ACall.of (toVlS_A l hlen1 c1 _ t1 hS1.app) ?_
        simp -dsimp -implicitDefEqProofs (disch := omega) [go_sem, -List.getD_eq_getElem?_getD, ite_yes, ht0, ht1, ht2]
        refine ACall.of (eqVlS_A l l hlen1 hlen1 _ _ _ _ _ (Sl.nth 7 rfl rfl) (Sl.nth 10 rfl rfl)) ?_
        simp -dsimp -implicitDefEqProofs (disch := omega) [go_sem, -List.getD_eq_getElem?_getD, ite_yes, ht0, ht1, ht2]
        refine ACall.of (toNmS_A a hlen2 c2 _ t2 hS2.app) ?_
        simp -dsimp -implicitDefEqProofs (disch := omega) [go_sem, -List.getD_eq_getElem?_getD, ite_yes, ht0, ht1, ht2]
        refine ACall.of (eqNmS_A a a hlen2 hlen2 _ _ _ _ _ (Sl.nth 8 rfl rfl) (Sl.nth 11 rfl rfl)) ?_
        simp -dsimp -implicitDefEqProofs (disch := omega) [go_sem, -List.getD_eq_getElem?_getD, ite_yes, ht0, ht1, ht2]
        refine ACall.of (markNet_A n ps hlen0 _ _ _ (by omega) (by omega) _ _ ((Heap.get_len_add _ _ 5).trans rfl)) ?_
        simp -dsimp -implicitDefEqProofs (disch := omega) [go_sem, -List.getD_eq_getElem?_getD, ite_yes, ht0, ht1, ht2]
        refine ACall.of (markVlS_A l hlen1 _ _ _ (by omega) (by omega) _ _ ((Heap.get_len_add _ _ 7).trans rfl)) ?_
        simp -dsimp -implicitDefEqProofs (disch := omega) [go_sem, -List.getD_eq_getElem?_getD, ite_yes, ht0, ht1, ht2]
        refine ACall.of (markNmS_A a hlen2 _ _ _ (by omega) (by omega) _ _ ((Heap.get_len_add _ _ 8).trans rfl)) ?_
        simp -dsimp -implicitDefEqProofs (disch := omega) [go_sem, -List.getD_eq_getElem?_getD, ite_yes, ht0, ht1, ht2]
        refine AIf.of (fun h => absurd (of_decide_eq_true h) (by omega)) (fun _ => ?_)
        simp -dsimp -implicitDefEqProofs (disch := omega) [go_sem, -List.getD_eq_getElem?_getD, ite_yes, ht0, ht1, ht2]
        refine ACall.of (eqSS_nil _ _ _) ?_
        simp -dsimp -implicitDefEqProofs (disch := omega) [go_sem, -List.getD_eq_getElem?_getD, ite_yes, ht0, ht1, ht2]
        refine ACall.of (markSS_nil _ _) ?_
        simp -dsimp -implicitDefEqProofs (disch := omega) [go_sem, -List.getD_eq_getElem?_getD, ite_yes, ht0, ht1, ht2]
        refine ACall.of (heldSS_nil _ _) ?_
        simp -dsimp -implicitDefEqProofs (disch := omega) [go_sem, -List.getD_eq_getElem?_getD, ite_yes, ht0, ht1, ht2]
        refine ACall.of (toNet_A n ps hlen0 c0 _ t0 hS0.app) ?_
        simp -dsimp -implicitDefEqProofs (disch := omega) [go_sem, -List.getD_eq_getElem?_getD, ite_yes, ht0, ht1, ht2]
        refine ACall.of (toVlS_A l hlen1 c1 _ t1 hS1.app) ?_
        simp -dsimp -implicitDefEqProofs (disch := omega) [go_sem, -List.getD_eq_getElem?_getD, ite_yes, ht0, ht1, ht2]
        refine ACall.of (toNmS_A a hlen2 c2 _ t2 hS2.app) ?_
        simp -dsimp -implicitDefEqProofs (disch := omega) [go_sem, -List.getD_eq_getElem?_getD, ite_yes, ht0, ht1, ht2]
        refine ACall.of (iNewly_bad n ps hlen0 _ l hlen1 _ src a hlen2 hg _ _ _ _ _ (Sl.nth 12 rfl rfl) (Sl.nth 13 rfl rfl) (Sl.nth 14 rfl rfl)) ?_
        simp -dsimp -implicitDefEqProofs (disch := omega) [go_sem, -List.getD_eq_getElem?_getD, ite_yes, ht0, ht1, ht2]
        refine ACall.of (eqSS_nil _ _ _) ?_
        simp -dsimp -implicitDefEqProofs (disch := omega) [go_sem, -List.getD_eq_getElem?_getD, ite_yes, ht0, ht1, ht2]
        refine ACall.of (heldSS_nil _ _) ?_
        simp -dsimp -implicitDefEqProofs (disch := omega) [go_sem, -List.getD_eq_getElem?_getD, ite_yes, ht0, ht1, ht2]
        exact fin_flat rfl rfl
end Go.Proofs.Ytamkdgjagjpmlaa
