/- NewlyWet: the reference's walk, and both sides where no order is given. -/
import Derived.Test.YtamkdgjagjpmlaaNwI
namespace Go.Proofs.Ytamkdgjagjpmlaa
open Go.Am
set_option linter.unusedVariables false
set_option linter.unusedSimpArgs false
set_option maxRecDepth 100000
set_option maxHeartbeats 8000000
theorem iNewly_bad (n : Int) (ps : List Pp) (hps : ps.length ≤ 1048577) (cp : Nat) (l : List Vl) (hl : l.length ≤ 1048577) (c : Nat) (src : Int) (a : List Int) (ha : a.length ≤ 1048577) (ho : isOrd n ps l src a = false) (d : Nat) (H : Heap) (tp t u : Nat) (hP : Sl ppE H tp ps) (hS : Sl vlE H t l) (hU : Sl nmE H u a) :
    AFunC Try.prog 10 [netV n tp ps.length cp, .slice (some ⟨t, 0, none⟩) l.length c, .int .i64 src, .slice (some ⟨u, 0, none⟩) a.length d] H (.tuple #[.slice none 0 0, .bool false]) H := by
  refine AFunC.of_body Try.func10 (by kernel_rfl) rfl (by kernel_rfl) (by simp [Try.ntmps10]) ?_
  have htp := hP.lt
  have ht := hS.lt
  have hu := hU.lt
  simp -dsimp -implicitDefEqProofs (disch := omega) [go_sem, -List.getD_eq_getElem?_getD, ite_yes, htp, ht, hu]
  refine ACall.of (iIsOrder_A n ps hps cp l hl c src a ha d _ tp t u hP.app hS.app hU.app) ?_
  simp -dsimp -implicitDefEqProofs (disch := omega) [go_sem, -List.getD_eq_getElem?_getD, ite_yes, ho, htp, ht, hu]
  exact fin_flat rfl rfl
theorem sNewly_bad (n : Int) (ps : List Pp) (hps : ps.length ≤ 1048577) (cp : Nat) (l : List Vl) (hl : l.length ≤ 1048577) (c : Nat) (src : Int) (a : List Int) (ha : a.length ≤ 1048577) (ho : isOrd n ps l src a = false) (d : Nat) (H : Heap) (tp t u : Nat) (hP : Sl ppE H tp ps) (hS : Sl vlE H t l) (hU : Sl nmE H u a) :
    AFunC Try.prog 6 [netV n tp ps.length cp, .slice (some ⟨t, 0, none⟩) l.length c, .int .i64 src, .slice (some ⟨u, 0, none⟩) a.length d] H (.tuple #[.slice (some ⟨H.length, 0, none⟩) 0 0, .bool false]) (H ++ [some ⟨[], true, 26, 1⟩]) := by
  refine AFunC.of_body Try.func6 (by kernel_rfl) rfl (by kernel_rfl) (by simp [Try.ntmps6]) ?_
  have htp := hP.lt
  have ht := hS.lt
  have hu := hU.lt
  simp -dsimp -implicitDefEqProofs (disch := omega) [go_sem, -List.getD_eq_getElem?_getD, ite_yes, htp, ht, hu]
  refine ACall.of (l18Order_A n ps hps cp l hl c src a ha d _ tp t u hP.app hS.app hU.app) ?_
  simp -dsimp -implicitDefEqProofs (disch := omega) [go_sem, -List.getD_eq_getElem?_getD, ite_yes, ho, htp, ht, hu]
  refine fin_list [some 1] rfl ?_ (by simp -dsimp -implicitDefEqProofs (disch := omega) [go_sem, -List.getD_eq_getElem?_getD, ite_yes])
  simp -dsimp -implicitDefEqProofs (disch := omega) [go_sem, -List.getD_eq_getElem?_getD, ite_yes]
  exact .inl ⟨rfl, rfl⟩
theorem dryT_A (n : Int) (ps : List Pp) (hN : NetAt n ps) (cp : Nat) (l : List Vl) (hl : l.length ≤ 1048577) (c : Nat) (src : Int) (hsrc : 1 ≤ src ∧ src ≤ n) (a : List Int) (k : Nat) (hk : k ≤ a.length) (ha : a.length ≤ 1048577) (d : Nat) (H : Heap) (tp t u : Nat) (hP : Sl ppE H tp ps) (hS : Sl vlE H t l) (hU : Sl nmE H u a) :
    AFunC Try.prog 22 [netV n tp ps.length cp, .slice (some ⟨t, 0, none⟩) l.length c, .int .i64 src, .slice (some ⟨u, 0, none⟩) k d] H (.slice (some ⟨H.length, 0, none⟩) (dryO n ps l src (a.take k)).length 0) (H ++ [some ⟨(dryO n ps l src (a.take k)).flatMap nmE, true, 3, 1⟩]) := by
  have := l18Dry_A n ps hN cp l hl c src hsrc (a.take k) (by rw [List.length_take]; omega) d 0 H tp t u hP hS (IdS.of (hU.take k))
  rwa [List.length_take_of_le hk] at this
theorem sNewly_R (n : Int) (ps : List Pp) (cp : Nat) (l : List Vl) (c : Nat) (src : Int) (a : List Int) (ho : isOrd n ps l src a = true) (d : Nat) (H : Heap) (tp t u : Nat) (hP : Sl ppE H tp ps) (hS : Sl vlE H t l) (hU : Sl nmE H u a) :
    AFunR Try.prog 6 [netV n tp ps.length cp, .slice (some ⟨t, 0, none⟩) l.length c, .int .i64 src, .slice (some ⟨u, 0, none⟩) a.length d] H (NwOut H (nwL n ps l src a a.length)) := by
  refine AFunR.of_body Try.func6 (by kernel_rfl) rfl (by kernel_rfl) (by simp [Try.ntmps6]) ?_
  have htp := hP.lt
  have ht := hS.lt
  have hu := hU.lt
  have ho' := ho
  unfold isOrd at ho'
  rw [Bool.and_eq_true] at ho'
  obtain ⟨hq, hob⟩ := ho'
  obtain ⟨hg, hN, hl10, hsrc, hs6⟩ := askR_at hq
  have hpl := hN.f_len
  have hn := hN.f_n
  have hperm := ordB_perm hob
  have hal := hperm.length_eq
  simp -dsimp -implicitDefEqProofs (disch := omega) [go_sem, -List.getD_eq_getElem?_getD, ite_yes, htp, ht, hu]
  refine ACall.of (l18Order_A n ps (by omega) cp l (by omega) c src a (by omega) d _ tp t u hP.app hS.app hU.app) ?_
  simp -dsimp -implicitDefEqProofs (disch := omega) [go_sem, -List.getD_eq_getElem?_getD, ite_yes, ho, htp, ht, hu]
  refine ALoop.intro (ι := NwSt) (fun i => NwInv n ps l src a tp cp H i) (fun i => [(1, .slice (some ⟨t, 0, none⟩) l.length c), (2, .int .i64 src), (3, .slice (some ⟨u, 0, none⟩) a.length d), (4, .pointer (some ⟨H.length, 0, none⟩)), (10, .slice (some ⟨i.u, 0, none⟩) i.R.length 0), (11, .int .i64 i.k)]) (fun i => i.G) (fun i => a.length - i.k) _ (NwInv.start n ps l src a tp cp H htp) ?_ ?_
  · exact weakS_vk (NwInv.start n ps l src a tp cp H htp).vk (by simp -dsimp -implicitDefEqProofs (disch := omega) [go_sem, -List.getD_eq_getElem?_getD, ite_yes, htp, ht, hu])
  intro i hi
  have nx := fun hk => hi.next hk 0
  obtain ⟨k, us, R, G⟩ := i
  have hk := hi.le
  have hrl := hi.rl
  have hrows := hi.rows
  have hV := hi.vk
  have hQ := hi.kq
  have cnet := hi.net
  have cnet0 := hi.net0
  have klt := hi.lt
  have hrw := hi.rw
  simp only at hk hrl hrows hV hQ cnet cnet0 klt hrw nx ⊢
  have gtp : tp < G.length := by omega
  have gt : t < G.length := by omega
  have gu : u < G.length := by omega
  have gus := hrows.lt
  have gP := hQ.sl hP
  have gS := hQ.sl hS
  have gU := hQ.sl hU
  by_cases hlt : k < a.length
  rotate_left
  · obtain rfl : k = a.length := by omega
    simp -dsimp -implicitDefEqProofs (disch := omega) [go_sem, -List.getD_eq_getElem?_getD, ite_yes, hlt]
    exact EndR.of (.tuple #[.slice (some ⟨us, 0, none⟩) R.length 0, .bool true]) G ⟨R, us, rfl, hrw, hrows.le (by omega), hV, hQ⟩ (fin_vk hV (by simp -dsimp -implicitDefEqProofs (disch := omega) [go_sem, -List.getD_eq_getElem?_getD, ite_yes, gus]))
  have hk1 : ((k : Int) + 1).toNat = k + 1 := by omega
  have hki : (k : Int) + 1 ≤ (a.length : Int) := by omega
  have hlti : (k : Int) < (a.length : Int) := by omega
  have en : nwF n ps l src a k = spTo (dryO n ps l src (a.take k)) (dryO n ps l src (a.take (k + 1))) (dryO n ps l src (a.take k)).length := (spTo_eq _ _ _ n.toNat (Nat.le_refl _)).symm
  have o1 := dryT_A n ps hN cp l (by omega) c src hsrc a k hk (by omega) k
  have o2 := dryT_A n ps hN cp l (by omega) c src hsrc a (k + 1) hlt (by omega) (k + 1)
  have hl1 := dryO_length n ps l src (a.take k)
  have hl2 := dryO_length n ps l src (a.take (k + 1))
  generalize nwF n ps l src a k = F at *
  generalize dryO n ps l src (a.take k) = D at *
  generalize dryO n ps l src (a.take (k + 1)) = E at *
  simp -dsimp -implicitDefEqProofs (disch := omega) [go_sem, -List.getD_eq_getElem?_getD, ite_yes, hlt, hlti]
  refine ADraw.mid [(1, .slice (some ⟨t, 0, none⟩) l.length c), (2, .int .i64 src), (3, .slice (some ⟨u, 0, none⟩) a.length d), (4, .pointer (some ⟨H.length, 0, none⟩)), (10, .slice (some ⟨us, 0, none⟩) R.length 0), (11, .int .i64 k), (12, .slice (some ⟨G.length, 0, none⟩) D.length 0), (13, .slice (some ⟨G.length + 1, 0, none⟩) E.length 0)] (G ++ [some ⟨D.flatMap nmE, true, 3, 1⟩, some ⟨E.flatMap nmE, true, 3, 1⟩]) ?_ ?_
  · skip
    refine ADraw.any G (by kernel_rfl) (SubH.refl) ?_
    refine AAny.takes (fuel := 6) (by kernel_rfl) (by kernel_rfl) [1, 2, 3, 4, 5, 8, 9, 10, 11, 12, 13] (by kernel_rfl) (by kernel_rfl) ?_
    simp -dsimp -implicitDefEqProofs (disch := omega) [go_sem, -List.getD_eq_getElem?_getD, ite_yes, hlt, hlti, hk1, hki, cnet, klt, gtp, gt, gu, gus]
    refine AAny.two 5 0 7 (by kernel_rfl) (by kernel_rfl) (by kernel_rfl) ?_ ?_
    · simp -dsimp -implicitDefEqProofs (disch := omega) [go_sem, -List.getD_eq_getElem?_getD, ite_yes, hlt, hlti, hk1, hki, cnet, klt, gtp, gt, gu, gus]
      first | refine AAt.of (by first | exact SubH.refl | exact SubH.app) ?_ | (refine ⟨?_, AAt.of (by first | exact SubH.refl | exact SubH.app) ?_⟩; · omega)
      refine AAny.two 4 6 7 (by kernel_rfl) (by kernel_rfl) (by kernel_rfl) ?_ ?_
      · simp -dsimp -implicitDefEqProofs (disch := omega) [go_sem, -List.getD_eq_getElem?_getD, ite_yes, hlt, hlti, hk1, hki, cnet, klt, gtp, gt, gu, gus]
        first | refine ACall.of (o1 _ tp t u gP.app gS.app gU.app) ?_ | refine ACall.of (o1 _ tp t u gP gS gU) ?_
        simp -dsimp -implicitDefEqProofs (disch := omega) [go_sem, -List.getD_eq_getElem?_getD, ite_yes, hlt, hlti, hk1, hki, cnet, klt, gtp, gt, gu, gus]
        first | refine AAt.of (by first | exact SubH.refl | exact SubH.app) ?_ | (refine ⟨?_, AAt.of (by first | exact SubH.refl | exact SubH.app) ?_⟩; · omega)
        refine AAny.one 3 7 (by kernel_rfl) (by kernel_rfl) (by kernel_rfl) ?_
        simp -dsimp -implicitDefEqProofs (disch := omega) [go_sem, -List.getD_eq_getElem?_getD, ite_yes, hlt, hlti, hk1, hki, cnet, klt, gtp, gt, gu, gus]
        first | refine AAt.of (by first | exact SubH.refl | exact SubH.app) ?_ | (refine ⟨?_, AAt.of (by first | exact SubH.refl | exact SubH.app) ?_⟩; · omega)
        refine AAny.one 2 14 (by kernel_rfl) (by kernel_rfl) (by kernel_rfl) ?_
        simp -dsimp -implicitDefEqProofs (disch := omega) [go_sem, -List.getD_eq_getElem?_getD, ite_yes, hlt, hlti, hk1, hki, cnet, klt, gtp, gt, gu, gus]
        first | refine ACall.of (o2 _ tp t u gP.app gS.app gU.app) ?_ | refine ACall.of (o2 _ tp t u gP gS gU) ?_
        simp -dsimp -implicitDefEqProofs (disch := omega) [go_sem, -List.getD_eq_getElem?_getD, ite_yes, hlt, hlti, hk1, hki, cnet, klt, gtp, gt, gu, gus]
        first | refine AAt.of (by first | exact SubH.refl | exact SubH.app) ?_ | (refine ⟨?_, AAt.of (by first | exact SubH.refl | exact SubH.app) ?_⟩; · omega)
        refine AAny.takes (fuel := 0) (by kernel_rfl) (by kernel_rfl) [15, 16] (by kernel_rfl) (by kernel_rfl) ?_
        simp -dsimp -implicitDefEqProofs (disch := omega) [go_sem, -List.getD_eq_getElem?_getD, ite_yes, hlt, hlti, hk1, hki, cnet, klt, gtp, gt, gu, gus]
        refine AAny.done (by kernel_rfl) ?_
        simp -dsimp -implicitDefEqProofs (disch := omega) [go_sem, -List.getD_eq_getElem?_getD, ite_yes, hlt, hlti, hk1, hki, cnet, klt, gtp, gt, gu, gus]
        first | exact ⟨weakS_vmk hV [some 0, some 1] rfl (by simp -dsimp -implicitDefEqProofs (disch := omega) [go_sem, -List.getD_eq_getElem?_getD, ite_yes]; exact ⟨.inl ⟨rfl, nmE_flat _⟩, .inl ⟨rfl, nmE_flat _⟩⟩) (by simp -dsimp -implicitDefEqProofs (disch := omega) [go_sem, -List.getD_eq_getElem?_getD, ite_yes, gtp, gt, gu, gus, klt])⟩ | exact ⟨weakS_vmk hV [some 1, some 0] rfl (by simp -dsimp -implicitDefEqProofs (disch := omega) [go_sem, -List.getD_eq_getElem?_getD, ite_yes]; exact ⟨.inl ⟨rfl, nmE_flat _⟩, .inl ⟨rfl, nmE_flat _⟩⟩) (by simp -dsimp -implicitDefEqProofs (disch := omega) [go_sem, -List.getD_eq_getElem?_getD, ite_yes, gtp, gt, gu, gus, klt])⟩
      · simp -dsimp -implicitDefEqProofs (disch := omega) [go_sem, -List.getD_eq_getElem?_getD, ite_yes, hlt, hlti, hk1, hki, cnet, klt, gtp, gt, gu, gus]
        first | refine AAt.of (by first | exact SubH.refl | exact SubH.app) ?_ | (refine ⟨?_, AAt.of (by first | exact SubH.refl | exact SubH.app) ?_⟩; · omega)
        refine AAny.one 3 6 (by kernel_rfl) (by kernel_rfl) (by kernel_rfl) ?_
        simp -dsimp -implicitDefEqProofs (disch := omega) [go_sem, -List.getD_eq_getElem?_getD, ite_yes, hlt, hlti, hk1, hki, cnet, klt, gtp, gt, gu, gus]
        first | refine ACall.of (o1 _ tp t u gP.app gS.app gU.app) ?_ | refine ACall.of (o1 _ tp t u gP gS gU) ?_
        simp -dsimp -implicitDefEqProofs (disch := omega) [go_sem, -List.getD_eq_getElem?_getD, ite_yes, hlt, hlti, hk1, hki, cnet, klt, gtp, gt, gu, gus]
        first | refine AAt.of (by first | exact SubH.refl | exact SubH.app) ?_ | (refine ⟨?_, AAt.of (by first | exact SubH.refl | exact SubH.app) ?_⟩; · omega)
        refine AAny.one 2 14 (by kernel_rfl) (by kernel_rfl) (by kernel_rfl) ?_
        simp -dsimp -implicitDefEqProofs (disch := omega) [go_sem, -List.getD_eq_getElem?_getD, ite_yes, hlt, hlti, hk1, hki, cnet, klt, gtp, gt, gu, gus]
        first | refine ACall.of (o2 _ tp t u gP.app gS.app gU.app) ?_ | refine ACall.of (o2 _ tp t u gP gS gU) ?_
        simp -dsimp -implicitDefEqProofs (disch := omega) [go_sem, -List.getD_eq_getElem?_getD, ite_yes, hlt, hlti, hk1, hki, cnet, klt, gtp, gt, gu, gus]
        first | refine AAt.of (by first | exact SubH.refl | exact SubH.app) ?_ | (refine ⟨?_, AAt.of (by first | exact SubH.refl | exact SubH.app) ?_⟩; · omega)
        refine AAny.takes (fuel := 0) (by kernel_rfl) (by kernel_rfl) [15, 16] (by kernel_rfl) (by kernel_rfl) ?_
        simp -dsimp -implicitDefEqProofs (disch := omega) [go_sem, -List.getD_eq_getElem?_getD, ite_yes, hlt, hlti, hk1, hki, cnet, klt, gtp, gt, gu, gus]
        refine AAny.done (by kernel_rfl) ?_
        simp -dsimp -implicitDefEqProofs (disch := omega) [go_sem, -List.getD_eq_getElem?_getD, ite_yes, hlt, hlti, hk1, hki, cnet, klt, gtp, gt, gu, gus]
        first | exact ⟨weakS_vmk hV [some 0, some 1] rfl (by simp -dsimp -implicitDefEqProofs (disch := omega) [go_sem, -List.getD_eq_getElem?_getD, ite_yes]; exact ⟨.inl ⟨rfl, nmE_flat _⟩, .inl ⟨rfl, nmE_flat _⟩⟩) (by simp -dsimp -implicitDefEqProofs (disch := omega) [go_sem, -List.getD_eq_getElem?_getD, ite_yes, gtp, gt, gu, gus, klt])⟩ | exact ⟨weakS_vmk hV [some 1, some 0] rfl (by simp -dsimp -implicitDefEqProofs (disch := omega) [go_sem, -List.getD_eq_getElem?_getD, ite_yes]; exact ⟨.inl ⟨rfl, nmE_flat _⟩, .inl ⟨rfl, nmE_flat _⟩⟩) (by simp -dsimp -implicitDefEqProofs (disch := omega) [go_sem, -List.getD_eq_getElem?_getD, ite_yes, gtp, gt, gu, gus, klt])⟩
    · simp -dsimp -implicitDefEqProofs (disch := omega) [go_sem, -List.getD_eq_getElem?_getD, ite_yes, hlt, hlti, hk1, hki, cnet, klt, gtp, gt, gu, gus]
      first | refine AAt.of (by first | exact SubH.refl | exact SubH.app) ?_ | (refine ⟨?_, AAt.of (by first | exact SubH.refl | exact SubH.app) ?_⟩; · omega)
      refine AAny.one 4 0 (by kernel_rfl) (by kernel_rfl) (by kernel_rfl) ?_
      simp -dsimp -implicitDefEqProofs (disch := omega) [go_sem, -List.getD_eq_getElem?_getD, ite_yes, hlt, hlti, hk1, hki, cnet, klt, gtp, gt, gu, gus]
      first | refine AAt.of (by first | exact SubH.refl | exact SubH.app) ?_ | (refine ⟨?_, AAt.of (by first | exact SubH.refl | exact SubH.app) ?_⟩; · omega)
      refine AAny.one 3 6 (by kernel_rfl) (by kernel_rfl) (by kernel_rfl) ?_
      simp -dsimp -implicitDefEqProofs (disch := omega) [go_sem, -List.getD_eq_getElem?_getD, ite_yes, hlt, hlti, hk1, hki, cnet, klt, gtp, gt, gu, gus]
      first | refine ACall.of (o1 _ tp t u gP.app gS.app gU.app) ?_ | refine ACall.of (o1 _ tp t u gP gS gU) ?_
      simp -dsimp -implicitDefEqProofs (disch := omega) [go_sem, -List.getD_eq_getElem?_getD, ite_yes, hlt, hlti, hk1, hki, cnet, klt, gtp, gt, gu, gus]
      first | refine AAt.of (by first | exact SubH.refl | exact SubH.app) ?_ | (refine ⟨?_, AAt.of (by first | exact SubH.refl | exact SubH.app) ?_⟩; · omega)
      refine AAny.one 2 14 (by kernel_rfl) (by kernel_rfl) (by kernel_rfl) ?_
      simp -dsimp -implicitDefEqProofs (disch := omega) [go_sem, -List.getD_eq_getElem?_getD, ite_yes, hlt, hlti, hk1, hki, cnet, klt, gtp, gt, gu, gus]
      first | refine ACall.of (o2 _ tp t u gP.app gS.app gU.app) ?_ | refine ACall.of (o2 _ tp t u gP gS gU) ?_
      simp -dsimp -implicitDefEqProofs (disch := omega) [go_sem, -List.getD_eq_getElem?_getD, ite_yes, hlt, hlti, hk1, hki, cnet, klt, gtp, gt, gu, gus]
      first | refine AAt.of (by first | exact SubH.refl | exact SubH.app) ?_ | (refine ⟨?_, AAt.of (by first | exact SubH.refl | exact SubH.app) ?_⟩; · omega)
      refine AAny.takes (fuel := 0) (by kernel_rfl) (by kernel_rfl) [15, 16] (by kernel_rfl) (by kernel_rfl) ?_
      simp -dsimp -implicitDefEqProofs (disch := omega) [go_sem, -List.getD_eq_getElem?_getD, ite_yes, hlt, hlti, hk1, hki, cnet, klt, gtp, gt, gu, gus]
      refine AAny.done (by kernel_rfl) ?_
      simp -dsimp -implicitDefEqProofs (disch := omega) [go_sem, -List.getD_eq_getElem?_getD, ite_yes, hlt, hlti, hk1, hki, cnet, klt, gtp, gt, gu, gus]
      first | exact ⟨weakS_vmk hV [some 0, some 1] rfl (by simp -dsimp -implicitDefEqProofs (disch := omega) [go_sem, -List.getD_eq_getElem?_getD, ite_yes]; exact ⟨.inl ⟨rfl, nmE_flat _⟩, .inl ⟨rfl, nmE_flat _⟩⟩) (by simp -dsimp -implicitDefEqProofs (disch := omega) [go_sem, -List.getD_eq_getElem?_getD, ite_yes, gtp, gt, gu, gus, klt])⟩ | exact ⟨weakS_vmk hV [some 1, some 0] rfl (by simp -dsimp -implicitDefEqProofs (disch := omega) [go_sem, -List.getD_eq_getElem?_getD, ite_yes]; exact ⟨.inl ⟨rfl, nmE_flat _⟩, .inl ⟨rfl, nmE_flat _⟩⟩) (by simp -dsimp -implicitDefEqProofs (disch := omega) [go_sem, -List.getD_eq_getElem?_getD, ite_yes, gtp, gt, gu, gus, klt])⟩
  have cR := hrows.sl.all1 (g := fun r : Rw => Value.slice (some ⟨r.1, 0, none⟩) r.2.2.length r.2.1)
  rw [rwE_map] at cR
  simp -dsimp -implicitDefEqProofs (disch := omega) [go_sem, -List.getD_eq_getElem?_getD, ite_yes, klt, gtp, gt, gu, gus]
  refine ALoop.intro (ι := Nat) (fun j => j ≤ D.length) (fun j => [(1, .slice (some ⟨t, 0, none⟩) l.length c), (2, .int .i64 src), (3, .slice (some ⟨u, 0, none⟩) a.length d), (4, .pointer (some ⟨H.length, 0, none⟩)), (10, .slice (some ⟨us, 0, none⟩) R.length 0), (11, .int .i64 k), (12, .slice (some ⟨G.length, 0, none⟩) D.length 0), (13, .slice (some ⟨G.length + 1, 0, none⟩) E.length 0), (14, .slice (some ⟨G.length + 2, 0, none⟩) (spTo D E j).length 0), (15, .int .i64 j)])
    (fun j => G ++ [some ⟨D.flatMap nmE, true, 3, 1⟩, some ⟨E.flatMap nmE, true, 3, 1⟩, some ⟨(spTo D E j).flatMap nmE, true, 3, 1⟩]) (fun j => D.length - j) 0 (by omega) ?_ ?_
  · refine weakS_vmk hV [some 0, some 1, some 2] rfl ?_ (by simp -dsimp -implicitDefEqProofs (disch := omega) [go_sem, -List.getD_eq_getElem?_getD, ite_yes, gtp, gt, gu, gus, klt, spTo])
    simp -dsimp -implicitDefEqProofs (disch := omega) [go_sem, -List.getD_eq_getElem?_getD, ite_yes, spTo]
    exact ⟨.inl ⟨rfl, nmE_flat _⟩, .inl ⟨rfl, nmE_flat _⟩, .inl ⟨rfl, rfl⟩⟩
  intro j hj
  have hdl := spTo_length D E j
  have hfl : ((spTo D E j).flatMap nmE).length = (spTo D E j).length := by rw [nmE_length]; omega
  have hfD : (D.flatMap nmE).length = D.length := by rw [nmE_length]; omega
  by_cases hjl : j < D.length
  · have hjli : (j : Int) < (D.length : Int) := by omega
    have c1 := nm_cell1 D hjl
    have e : spTo D E (j + 1) = if hasI E (D.getD j 0) = true then spTo D E j else spTo D E j ++ [D.getD j 0] := rfl
    generalize D.getD j 0 = x at *
    simp -dsimp -implicitDefEqProofs (disch := omega) [go_sem, -List.getD_eq_getElem?_getD, ite_yes, hjl, hjli, c1, hfD, klt, gtp, gt, gu, gus]
    refine ACall.of (l1Has_A E x (by omega) 0 _ (G.length + 1) (Sl.nth 1 rfl rfl)) ?_
    cases hh : hasI E x <;> rw [hh] at e
    · rw [if_neg (by simp)] at e
      simp -dsimp -implicitDefEqProofs (disch := omega) [go_sem, -List.getD_eq_getElem?_getD, ite_yes, hjl, hjli, c1, hfD, klt, gtp, gt, gu, gus, hfl]
      refine ⟨by omega, LoopEnd.of (j + 1) (by omega) (by omega) (weakS_vmk hV [some 0, some 1, some 4] rfl ?_ (by simp -dsimp -implicitDefEqProofs (disch := omega) [go_sem, -List.getD_eq_getElem?_getD, ite_yes, gtp, gt, gu, gus, klt, e]))⟩
      simp -dsimp -implicitDefEqProofs (disch := omega) [go_sem, -List.getD_eq_getElem?_getD, ite_yes]
      exact ⟨.inl ⟨rfl, nmE_flat _⟩, .inl ⟨rfl, nmE_flat _⟩, .inl ⟨by rw [e, List.flatMap_append]; rfl, by rw [show List.flatMap nmE (spTo D E j) ++ [Value.int IntKind.i64 x] = List.flatMap nmE (spTo D E (j + 1)) by rw [e, List.flatMap_append]; rfl]; exact nmE_flat _⟩⟩
    · rw [if_pos rfl] at e
      simp -dsimp -implicitDefEqProofs (disch := omega) [go_sem, -List.getD_eq_getElem?_getD, ite_yes, hjl, hjli, c1, hfD, klt, gtp, gt, gu, gus, hfl]
      refine LoopEnd.of (j + 1) (by omega) (by omega) (weakS_vmk hV [some 0, some 1, some 2] rfl ?_ (by simp -dsimp -implicitDefEqProofs (disch := omega) [go_sem, -List.getD_eq_getElem?_getD, ite_yes, gtp, gt, gu, gus, klt, e]))
      simp -dsimp -implicitDefEqProofs (disch := omega) [go_sem, -List.getD_eq_getElem?_getD, ite_yes, e]
      exact ⟨.inl ⟨rfl, nmE_flat _⟩, .inl ⟨rfl, nmE_flat _⟩, .inl ⟨rfl, nmE_flat _⟩⟩
  obtain rfl : j = D.length := by omega
  have h1 : ¬ (D.length : Int) < (D.length : Int) := by omega
  rw [← en] at hdl hfl ⊢
  have hrf := rwE_length R
  have gR := fun L => (Heap.get_append_left (L := L) gus).trans hrows.sp
  have hR6 : R.length ≤ 6 := by omega
  simp -dsimp -implicitDefEqProofs (disch := omega) [go_sem, -List.getD_eq_getElem?_getD, ite_yes, h1, klt, gtp, gt, gu, gus, cnet0, cR, gR, hrf]
  refine ⟨by omega, ?_⟩
  refine LoopEnd.of (⟨k + 1, G.length + 1, R ++ [(G.length, 0, F)], G.set us none ++ [some ⟨F.flatMap nmE, true, 3, 1⟩, some ⟨(R ++ [(G.length, 0, F)]).flatMap rwE, true, 26, 1⟩]⟩ : NwSt) (nx hlt) (by first | omega | (simp only; omega)) ?_
  dsimp only
  refine weakS_vmk (K := G.set us none) (L' := [some ⟨F.flatMap nmE, true, 3, 1⟩, some ⟨(R ++ [(G.length, 0, F)]).flatMap rwE, true, 26, 1⟩]) hV.unset [some 2, some 4] rfl ?_ ?_
  rotate_left
  · simp -dsimp -implicitDefEqProofs (disch := omega) [go_sem, -List.getD_eq_getElem?_getD, ite_yes, gtp, gt, gu, gus, klt]
  simp -dsimp -implicitDefEqProofs (disch := omega) [go_sem, -List.getD_eq_getElem?_getD, ite_yes]
  refine ⟨.inl ⟨rfl, nmE_flat _⟩, ?_⟩
  exact wl_spine (js := [some 2, some 4]) (p := 2) (q := 2) (fun r hr => hrows.rlt hr) (by simp [sg]) (fun t ht => by simp [sg, ht]) (by omega)
end Go.Proofs.Ytamkdgjagjpmlaa
