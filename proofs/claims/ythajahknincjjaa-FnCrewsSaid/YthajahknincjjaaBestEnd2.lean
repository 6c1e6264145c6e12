/- BestEnd: the reference's side, and the law. -/
import Derived.Test.YthajahknincjjaaBestEnd
namespace Go.Proofs.Ythajahknincjjaa
open Go.Am
set_option linter.unusedVariables false
set_option linter.unusedSimpArgs false
set_option maxRecDepth 100000
set_option maxHeartbeats 4000000

def BOutB (h0 : Nat) (K : Heap) (r : Bst) (v : Value) (G : Heap) : Prop :=
  ∃ g c, v = .tuple #[.slice (some ⟨g, 0, none⟩) r.1.length c, .int .i64 r.2] ∧ G.get g = some ⟨r.1.flatMap nmE, true, 3, 1⟩ ∧ VK K G ∧ KQ K G ∧ h0 ≤ g
theorem l22Best_R (l : List Tk) (crews : Int) (tv cv h0 : Nat) :
    ∀ (f : Nat) (a : List Int) (d u : Nat) (K : Heap), GoodB l crews a → l.length - a.length < f → Sl tkE K tv l → K.get u = some ⟨a.flatMap nmE, true, 3, 1⟩ → h0 ≤ u → h0 ≤ K.length →
    AFunR Try.prog 34 [.slice (some ⟨tv, 0, none⟩) l.length cv, .int .i64 crews, .slice (some ⟨u, 0, none⟩) a.length d] K (BOutB h0 K (bstB l crews f a))
  | 0, a, d, u, K, hg, hf, hS, hu, hub, hkb => absurd hf (Nat.not_lt_zero _)
  | f + 1, a, d, u, K, hg, hf, hS, hu, hub, hkb => by
    have hle := hg.g_len
    have hcr := hg.crews
    have hut := Heap.get_lt hu
    have htv := hS.lt
    have hal : a.length ≤ 7 := by omega
    have hSu0 : Sl nmE K u a := ⟨_, [], hu, by simp⟩
    have hun : bstB l crews (f + 1) a = if a.length = l.length then (a, endN l crews a) else bTo (bstB l crews f) a crews.toNat := rfl
    refine AFunR.of_body Try.func34 (by kernel_rfl) rfl (by kernel_rfl) (by simp [Try.ntmps34]) ?_
    by_cases hl : a.length = l.length
    · have hl' : (a.length : Int) = (l.length : Int) := by omega
      rw [hun, if_pos hl]
      have A := l22End_A l crews a (hg.at hl) cv d K tv u hS hSu0
      generalize endN l crews a = en at *
      simp -dsimp -implicitDefEqProofs (disch := omega) [go_sem, -List.getD_eq_getElem?_getD, ite_yes, htv, hut]
      refine AIf.of (fun _ => ?_) (fun h => absurd (of_decide_eq_false h) (by omega))
      simp -dsimp -implicitDefEqProofs (disch := omega) [go_sem, -List.getD_eq_getElem?_getD, ite_yes, htv, hut]
      refine ACall.of A ?_
      simp -dsimp -implicitDefEqProofs (disch := omega) [go_sem, -List.getD_eq_getElem?_getD, ite_yes, hut]
      exact EndR.of (.tuple #[.slice (some ⟨u, 0, none⟩) a.length d, .int .i64 en]) K ⟨u, d, rfl, hu, VK.refl K, KQ.refl K, hub⟩ (fin_vk (VK.refl K) (by simp -dsimp -implicitDefEqProofs (disch := omega) [go_sem, -List.getD_eq_getElem?_getD, ite_yes, hut]))
    have hl' : ¬ (a.length : Int) = (l.length : Int) := by omega
    have hl2 : a.length < l.length := by omega
    rw [hun, if_neg hl]
    simp -dsimp -implicitDefEqProofs (disch := omega) [go_sem, -List.getD_eq_getElem?_getD, ite_yes, htv, hut, hl', hl]
    have vk0 : VK K (K ++ [some ⟨[], true, 3, 1⟩]) := VK.snoc trivial
    refine ALoop.intro (ι := Nat × Nat × Nat × Heap) (fun q => q.1 ≤ crews.toNat ∧ VK K q.2.2.2 ∧ KQ K q.2.2.2 ∧ h0 ≤ q.2.1 ∧ q.2.2.2.get q.2.1 = some ⟨(bTo (bstB l crews f) a q.1).1.flatMap nmE, true, 3, 1⟩)
      (fun q => [(0, .slice (some ⟨tv, 0, none⟩) l.length cv), (1, .int .i64 crews), (2, .slice (some ⟨u, 0, none⟩) a.length d), (8, .slice (some ⟨q.2.1, 0, none⟩) (bTo (bstB l crews f) a q.1).1.length q.2.2.1), (9, .int .i64 (bTo (bstB l crews f) a q.1).2), (10, .int .i64 q.1)]) (fun q => q.2.2.2) (fun q => crews.toNat - q.1)
      (0, K.length, 0, K ++ [some ⟨[], true, 3, 1⟩]) ⟨by omega, vk0, KQ.app, hkb, (Heap.get_len_add _ _ 0).trans rfl⟩ ?_ ?_
    · exact weakS_vk vk0 (by simp -dsimp -implicitDefEqProofs (disch := omega) [go_sem, -List.getD_eq_getElem?_getD, ite_yes, htv, hut, bTo])
    clear vk0
    rintro ⟨k, g, c, G⟩ ⟨hk, hV, hQ, hgb, hgg⟩
    simp only at hk hV hQ hgb hgg ⊢
    have gtv : tv < G.length := Nat.lt_of_lt_of_le htv hQ.1
    have gut : u < G.length := Nat.lt_of_lt_of_le hut hQ.1
    have ggt := Heap.get_lt hgg
    have gS := hQ.sl hS
    have gA := hQ.get hu
    have gSu : Sl nmE G u a := ⟨_, [], gA, by simp⟩
    by_cases hlt : k < crews.toNat
    rotate_left
    · have hk2 : k = crews.toNat := by omega
      have hki : ¬ (k : Int) < crews := by omega
      rw [← hk2]
      generalize bTo (bstB l crews f) a k = R at *
      simp -dsimp -implicitDefEqProofs (disch := omega) [go_sem, -List.getD_eq_getElem?_getD, ite_yes, hki]
      exact EndR.of (.tuple #[.slice (some ⟨g, 0, none⟩) R.1.length c, .int .i64 R.2]) G ⟨g, c, rfl, hgg, hV, hQ, hgb⟩ (fin_vk hV (by simp -dsimp -implicitDefEqProofs (disch := omega) [go_sem, -List.getD_eq_getElem?_getD, ite_yes, ggt]))
    have hki : (k : Int) < crews := by omega
    have hgood := hg.snoc hl2 hlt
    have e : bTo (bstB l crews f) a (k + 1) = if (bTo (bstB l crews f) a k).2 < 0 ∨ (bstB l crews f (a ++ [(k : Int)])).2 < (bTo (bstB l crews f) a k).2 then bstB l crews f (a ++ [(k : Int)]) else bTo (bstB l crews f) a k := rfl
    have rE : ∀ (d' u' : Nat) (G' : Heap), Sl tkE G' tv l → G'.get u' = some ⟨(a ++ [(k : Int)]).flatMap nmE, true, 3, 1⟩ → h0 ≤ u' → h0 ≤ G'.length →
        AFunR Try.prog 34 [.slice (some ⟨tv, 0, none⟩) l.length cv, .int .i64 crews, .slice (some ⟨u', 0, none⟩) (a.length + 1) d'] G' (BOutB h0 G' (bstB l crews f (a ++ [(k : Int)]))) := by
      intro d' u' G' h2 h5 h6 h7
      have := l22Best_R l crews tv cv h0 f (a ++ [(k : Int)]) d' u' G' hgood (by rw [List.length_append, List.length_singleton]; omega) h2 h5 h6 h7
      rwa [List.length_append, List.length_singleton] at this
    have eap : (a ++ [(k : Int)]).flatMap nmE = a.flatMap nmE ++ [.int .i64 (k : Int)] := by rw [List.flatMap_append]; rfl
    have hfa : (a.flatMap nmE).length = a.length := by rw [nmE_length]; omega
    generalize bstB l crews f (a ++ [(k : Int)]) = r at *
    generalize hRk : bTo (bstB l crews f) a k = R at *
    simp -dsimp -implicitDefEqProofs (disch := omega) [go_sem, -List.getD_eq_getElem?_getD, ite_yes, hki]
    refine ACall.of (l1Own_A a (by omega) d _ u gSu) ?_
    simp -dsimp -implicitDefEqProofs (disch := omega) [go_sem, -List.getD_eq_getElem?_getD, ite_yes, hki, hfa]
    refine ⟨by omega, ?_⟩
    refine ACall.via (rE _ (G.length + 2) _ gS.app ((Heap.get_len_add _ _ 2).trans (by rw [eap]; rfl)) (by have := hQ.1; omega) (by have := hQ.1; simp; omega)) ?_
    rintro v G' ⟨g', c', rfl, hg', hV', hQ', hgb'⟩
    have kq := KQ.app.trans hQ'
    have kV := (hV.trans (VK.app (flat3 (by first | exact trivial | exact nmE_flat _ | exact eap ▸ nmE_flat _) (by first | exact trivial | exact (rfl : ([Value.int .i64 (k : Int)] : List Value).all flat = true)) (by first | exact nmE_flat _ | exact eap ▸ nmE_flat _)))).trans hV'
    have k1 := Nat.lt_of_lt_of_le gtv kq.1
    have k2 := Nat.lt_of_lt_of_le gut kq.1
    have k3 := Nat.lt_of_lt_of_le ggt kq.1
    have k4 := Heap.get_lt hg'
    by_cases h4 : R.2 < 0
    · rw [if_pos (.inl h4)] at e
      simp -dsimp -implicitDefEqProofs (disch := omega) [go_sem, -List.getD_eq_getElem?_getD, ite_yes, h4]
      exact LoopEnd.of (k + 1, g', c', G') ⟨by omega, kV, hQ.trans kq, hgb', by rw [e]; exact hg'⟩ (by omega) (weakS_vk kV (by simp -dsimp -implicitDefEqProofs (disch := omega) [go_sem, -List.getD_eq_getElem?_getD, ite_yes, k1, k2, k3, k4, e]))
    by_cases h5 : r.2 < R.2
    · rw [if_pos (.inr h5)] at e
      simp -dsimp -implicitDefEqProofs (disch := omega) [go_sem, -List.getD_eq_getElem?_getD, ite_yes, h4, h5]
      exact LoopEnd.of (k + 1, g', c', G') ⟨by omega, kV, hQ.trans kq, hgb', by rw [e]; exact hg'⟩ (by omega) (weakS_vk kV (by simp -dsimp -implicitDefEqProofs (disch := omega) [go_sem, -List.getD_eq_getElem?_getD, ite_yes, k1, k2, k3, k4, e]))
    · rw [if_neg (fun h => h.elim h4 h5)] at e
      simp -dsimp -implicitDefEqProofs (disch := omega) [go_sem, -List.getD_eq_getElem?_getD, ite_yes, h4, h5]
      exact LoopEnd.of (k + 1, g, c, G') ⟨by omega, kV, hQ.trans kq, hgb, by rw [e]; exact kq.get hgg⟩ (by omega) (weakS_vk kV (by simp -dsimp -implicitDefEqProofs (disch := omega) [go_sem, -List.getD_eq_getElem?_getD, ite_yes, k1, k2, k3, k4, e]))
theorem sBestEnd_bad (l : List Tk) (crews : Int) (hl : l.length ≤ 1048577) (c : Nat) (H : Heap) (t : Nat) (hS : Sl tkE H t l) (hb : askOk l crews = false) :
    AFunC Try.prog 10 [.slice (some ⟨t, 0, none⟩) l.length c, .int .i64 crews] H (.tuple #[.slice (some ⟨H.length, 0, none⟩) 0 0, .int .i64 0, .bool false]) (H ++ [some ⟨[], true, 3, 1⟩]) := by
  refine AFunC.of_body Try.func10 (by kernel_rfl) rfl (by kernel_rfl) (by simp [Try.ntmps10]) ?_
  have ht := hS.lt
  simp -dsimp -implicitDefEqProofs (disch := omega) [go_sem, -List.getD_eq_getElem?_getD, ite_yes, ht]
  refine ACall.of (l22Asked_A l crews hl c _ t hS) ?_
  simp -dsimp -implicitDefEqProofs (disch := omega) [go_sem, -List.getD_eq_getElem?_getD, ite_yes, hb]
  refine fin_list [some 0] rfl ?_ (by simp -dsimp -implicitDefEqProofs (disch := omega) [go_sem, -List.getD_eq_getElem?_getD, ite_yes])
  simp -dsimp -implicitDefEqProofs (disch := omega) [go_sem, -List.getD_eq_getElem?_getD, ite_yes]
  exact .inl ⟨rfl, rfl⟩
theorem sBestEnd_good (l : List Tk) (crews : Int) (hl : l.length ≤ 1048577) (c : Nat) (H : Heap) (t : Nat) (hS : Sl tkE H t l) (hg : askOk l crews = true) :
    AFunC Try.prog 10 [.slice (some ⟨t, 0, none⟩) l.length c, .int .i64 crews] H (.tuple #[.slice (some ⟨H.length, 0, none⟩) (bestB l crews).1.length 0, .int .i64 (bestB l crews).2, .bool true]) (H ++ [some ⟨(bestB l crews).1.flatMap nmE, true, 3, 1⟩]) := by
  refine AFunC.of_body Try.func10 (by kernel_rfl) rfl (by kernel_rfl) (by simp [Try.ntmps10]) ?_
  have ht := hS.lt
  simp -dsimp -implicitDefEqProofs (disch := omega) [go_sem, -List.getD_eq_getElem?_getD, ite_yes, ht]
  refine ACall.of (l22Asked_A l crews hl c _ t hS) ?_
  simp -dsimp -implicitDefEqProofs (disch := omega) [go_sem, -List.getD_eq_getElem?_getD, ite_yes, hg, ht]
  refine ACall.via (l22Best_R l crews t c H.length (l.length + 1) [] 0 H.length _ ⟨hg, by simp, fun i hi => absurd hi (by simp)⟩ (by simp) hS.app ((Heap.get_len_add _ _ 0).trans rfl) (by omega) (by simp)) ?_
  rintro v G ⟨g, cg, rfl, hgg, hV, hQ, hgb⟩
  rw [show bstB l crews (l.length + 1) [] = bestB l crews from rfl] at *
  generalize bestB l crews = r at *
  simp -dsimp -implicitDefEqProofs (disch := omega) [go_sem, -List.getD_eq_getElem?_getD, ite_yes]
  exact fin_pick3 (fun t ht => (hQ.2 t (by simp; omega)).trans (Heap.get_append_left ht)) hgg hgb (nmE_flat _)
theorem iBestEnd_bad (l : List Tk) (crews : Int) (hl : l.length ≤ 1048577) (c : Nat) (H : Heap) (t : Nat) (hS : Sl tkE H t l) (hb : askOk l crews = false) :
    AFunC Try.prog 9 [.slice (some ⟨t, 0, none⟩) l.length c, .int .i64 crews] H (.tuple #[.slice none 0 0, .int .i64 0, .bool false]) H := by
  refine AFunC.of_body Try.func9 (by kernel_rfl) rfl (by kernel_rfl) (by simp [Try.ntmps9]) ?_
  have ht := hS.lt
  simp -dsimp -implicitDefEqProofs (disch := omega) [go_sem, -List.getD_eq_getElem?_getD, ite_yes, ht]
  refine ACall.of (areCrews_A l crews hl c _ t hS.app) ?_
  simp -dsimp -implicitDefEqProofs (disch := omega) [go_sem, -List.getD_eq_getElem?_getD, ite_yes, hb]
  exact fin_flat rfl rfl
theorem iBestEnd_good (l : List Tk) (crews : Int) (hl : l.length ≤ 1048577) (c : Nat) (H : Heap) (t : Nat) (hS : Sl tkE H t l) (hg : askOk l crews = true) :
    AFunC Try.prog 9 [.slice (some ⟨t, 0, none⟩) l.length c, .int .i64 crews] H (.tuple #[.slice (some ⟨H.length, 0, none⟩) (bestB l crews).1.length 0, .int .i64 (bestB l crews).2, .bool true]) (H ++ [some ⟨(bestB l crews).1.flatMap nmE, true, 3, 1⟩]) := by
  refine AFunC.of_body Try.func9 (by kernel_rfl) rfl (by kernel_rfl) (by simp [Try.ntmps9]) ?_
  have ht := hS.lt
  simp -dsimp -implicitDefEqProofs (disch := omega) [go_sem, -List.getD_eq_getElem?_getD, ite_yes, ht]
  refine ACall.of (areCrews_A l crews hl c _ t hS.app) ?_
  simp -dsimp -implicitDefEqProofs (disch := omega) [go_sem, -List.getD_eq_getElem?_getD, ite_yes, hg, ht]
  have V := fun K hE hC hu => visitB_R l crews H.length (H.length + 1) (H.length + 5) (H.length + 4) (H.length + 3) t c 25 H.length (l.length + 1) [] ([], -1) 0 (H.length + 6) K ⟨hg, by simp, fun i hi => absurd hi (by simp)⟩ (by simp) hE hC hu (by omega) (by omega) (by omega)
  rw [vis_bestB hg] at V
  refine ACall.via (V _ ⟨by simp -dsimp -implicitDefEqProofs (disch := omega) [go_sem, -List.getD_eq_getElem?_getD, ite_yes], by simp -dsimp -implicitDefEqProofs (disch := omega) [go_sem, -List.getD_eq_getElem?_getD, ite_yes], by simp -dsimp -implicitDefEqProofs (disch := omega) [go_sem, -List.getD_eq_getElem?_getD, ite_yes], hS.app, by simp, by simp, by simp, by simp, by simp, by omega, by omega, by omega, by omega, by omega⟩ ⟨(Heap.get_len_add _ _ 4).trans rfl, H.length + 2, 0, (Heap.get_len_add _ _ 3).trans rfl, (Heap.get_len_add _ _ 2).trans rfl, by omega, by omega, by omega⟩ ((Heap.get_len_add _ _ 6).trans rfl) (by simp)) ?_
  rintro v G ⟨rfl, hE, hC', hV, hKp⟩
  generalize bestB l crews = r at *
  have c4 := hC'.c4
  obtain ⟨g, cb, c5, hgg, _, _, hgb⟩ := hC'.c5
  have l4 := hE.l4
  have l5 := hE.l5
  have q4 : aCells G ⟨H.length + 4, 0, none⟩ 1 = some [.int .i64 r.2] := by rw [aCells_eq, c4]; rfl
  have q5 : aCells G ⟨H.length + 3, 0, none⟩ 1 = some [.slice (some ⟨g, 0, none⟩) r.1.length cb] := by rw [aCells_eq, c5]; rfl
  simp -dsimp -implicitDefEqProofs (disch := omega) [go_sem, -List.getD_eq_getElem?_getD, ite_yes]
  refine ADraw.quiet (by kernel_rfl) (by kernel_rfl) (by kernel_rfl) ?_
  simp -dsimp -implicitDefEqProofs (disch := omega) [go_sem, -List.getD_eq_getElem?_getD, ite_yes, q4, q5, l4, l5]
  exact fin_pick3 (fun t ht => (hKp.2 t (by simp; omega) (by omega) (by omega)).trans (Heap.get_append_left ht)) hgg hgb (nmE_flat _)
theorem bestB_small (l : List Tk) (crews : Int) (h : l.length ≤ 1048577) : (bestB l crews).1.length ≤ 1048577 := Nat.le_trans (bstB_len _ _) h
end Go.Proofs.Ythajahknincjjaa
