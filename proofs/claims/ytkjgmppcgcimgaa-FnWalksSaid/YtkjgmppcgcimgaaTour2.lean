/- BestWalk: the reference's recursion, both sides, and the law. -/
import Derived.Test.YtkjgmppcgcimgaaTour
import Derived.Test.YtkjgmppcgcimgaaRecNet
import Derived.Test.YtkjgmppcgcimgaaRecTk
import Derived.Test.YtkjgmppcgcimgaaOwn
namespace Go.Proofs.Ytkjgmppcgcimgaa
open Go.Am
set_option linter.unusedVariables false
set_option linter.unusedSimpArgs false
set_option maxRecDepth 100000
set_option maxHeartbeats 4000000

theorem wmW_net {n : Int} {t len c h : Nat} (ht : t < h) (σ : Sig) (m : Nat) (hs : ∀ t, t < h → σ t = some t) (hm : h ≤ m) : L2 (WM σ m) [.int .i64 n, .slice (some ⟨t, 0, none⟩) len c] [.int .i64 n, .slice (some ⟨t, 0, none⟩) len c] :=
  have h1 : t < m := by omega
  ⟨rfl, ⟨h1, .inl ⟨t, c, hs t ht, rfl⟩⟩, trivial⟩
theorem sgW_id {m t : Nat} (h : t < m) : sg m [] t = some t := by simp [sg, h]
def YOutS (h0 : Nat) (K : Heap) (r : Bwk) (v : Value) (G : Heap) : Prop :=
  ∃ g c, v = .tuple #[.slice (some ⟨g, 0, none⟩) r.1.length c, .int .i64 r.2] ∧ G.get g = some ⟨r.1.flatMap nmE, true, 3, 1⟩ ∧ VK K G ∧ KQ K G ∧ h0 ≤ g
theorem l22Tour_R (n : Nat) (ps : List Pp) (l : List Tk) (src : Int) (ok : TourOk n ps l src) (tp cp tv cv h0 : Nat) :
    ∀ (f : Nat) (a : List Int) (d u : Nat) (K : Heap), GoodW l.length a → l.length - a.length < f → Sl ppE K tp ps → Sl tkE K tv l → K.get u = some ⟨a.flatMap nmE, true, 3, 1⟩ → h0 ≤ u → h0 ≤ K.length →
    AFunR Try.prog 44 [netV n tp ps.length cp, .slice (some ⟨tv, 0, none⟩) l.length cv, .int .i64 src, .slice (some ⟨u, 0, none⟩) a.length d] K (YOutS h0 K (tourW l.length (walkZ n ps l src) f a))
  | 0, a, d, u, K, hg, hf, hP, hS, hu, hub, hkb => absurd hf (Nat.not_lt_zero _)
  | f + 1, a, d, u, K, hg, hf, hP, hS, hu, hub, hkb => by
    have hle := hg.le
    have hl5 := ok.o_l
    have hut := Heap.get_lt hu
    have htv := hS.lt
    have htp := hP.lt
    have hal : a.length ≤ 7 := by omega
    have hSu0 : Sl nmE K u a := ⟨_, [], hu, by simp⟩
    have hun : tourW l.length (walkZ n ps l src) (f + 1) a = if a.length = l.length then (a, walkZ n ps l src a) else tTo (tourW l.length (walkZ n ps l src) f) a l.length := rfl
    have kq1 : KQ K (K ++ [some ⟨[.int .i64 n, .slice (some ⟨tp, 0, none⟩) ps.length cp], true, 32, 1⟩]) := KQ.app
    have vk1 : VK K (K ++ [some ⟨[.int .i64 n, .slice (some ⟨tp, 0, none⟩) ps.length cp], true, 32, 1⟩]) := VK.snoc (wmW_net (h := K.length) htp _ _ (fun t ht => sgW_id (by omega)) (by omega))
    refine AFunR.of_body Try.func44 (by kernel_rfl) rfl (by kernel_rfl) (by simp [Try.ntmps44]) ?_
    by_cases hl : a.length = l.length
    · have hl' : (a.length : Int) = (l.length : Int) := by omega
      rw [hun, if_pos hl]
      have A := fun K hP hS hU => l22Walk_A n ps ok.o_n l src ok.o_s a (hg.at (by omega)) cp cv d K tp tv u hP hS hU
      generalize walkZ n ps l src a = w at *
      simp -dsimp -implicitDefEqProofs (disch := omega) [go_sem, -List.getD_eq_getElem?_getD, ite_yes, htp, htv, hut]
      refine AIf.of (fun _ => ?_) (fun h => absurd (of_decide_eq_false h) (by omega))
      simp -dsimp -implicitDefEqProofs (disch := omega) [go_sem, -List.getD_eq_getElem?_getD, ite_yes, htp, htv, hut]
      refine ACall.of (A _ hP.app hS.app hSu0.app) ?_
      simp -dsimp -implicitDefEqProofs (disch := omega) [go_sem, -List.getD_eq_getElem?_getD, ite_yes, htp, hut]
      exact EndR.of (.tuple #[.slice (some ⟨u, 0, none⟩) a.length d, .int .i64 w]) _ ⟨u, d, rfl, kq1.get hu, vk1, kq1, hub⟩ (fin_vk vk1 (by simp -dsimp -implicitDefEqProofs (disch := omega) [go_sem, -List.getD_eq_getElem?_getD, ite_yes, hut]; try omega))
    have hl' : ¬ (a.length : Int) = (l.length : Int) := by omega
    have hl2 : a.length < l.length := by omega
    rw [hun, if_neg hl]
    simp -dsimp -implicitDefEqProofs (disch := omega) [go_sem, -List.getD_eq_getElem?_getD, ite_yes, htp, htv, hut, hl', hl]
    have vk0 : VK K (K ++ [some ⟨[.int .i64 n, .slice (some ⟨tp, 0, none⟩) ps.length cp], true, 32, 1⟩, some ⟨[], true, 3, 1⟩]) := by
      have := vk1.trans (VK.snoc (b := ⟨[], true, 3, 1⟩) trivial)
      rwa [List.append_assoc] at this
    refine ALoop.intro (ι := Nat × Nat × Nat × Heap) (fun q => q.1 ≤ l.length ∧ VK K q.2.2.2 ∧ KQ K q.2.2.2 ∧ aCells q.2.2.2 ⟨K.length, 0, none⟩ 2 = some [.int .i64 n, .slice (some ⟨tp, 0, none⟩) ps.length cp] ∧ K.length < q.2.2.2.length ∧ h0 ≤ q.2.1 ∧ q.2.2.2.get q.2.1 = some ⟨(tTo (tourW l.length (walkZ n ps l src) f) a q.1).1.flatMap nmE, true, 3, 1⟩)
      (fun q => [(1, .slice (some ⟨tv, 0, none⟩) l.length cv), (2, .int .i64 src), (3, .slice (some ⟨u, 0, none⟩) a.length d), (4, .pointer (some ⟨K.length, 0, none⟩)), (10, .slice (some ⟨q.2.1, 0, none⟩) (tTo (tourW l.length (walkZ n ps l src) f) a q.1).1.length q.2.2.1), (11, .int .i64 (tTo (tourW l.length (walkZ n ps l src) f) a q.1).2), (12, .int .i64 q.1)]) (fun q => q.2.2.2) (fun q => l.length - q.1)
      (0, K.length + 1, 0, K ++ [some ⟨[.int .i64 n, .slice (some ⟨tp, 0, none⟩) ps.length cp], true, 32, 1⟩, some ⟨[], true, 3, 1⟩]) ⟨by omega, vk0, KQ.app, by simp -dsimp -implicitDefEqProofs (disch := omega) [go_sem, -List.getD_eq_getElem?_getD, ite_yes], by simp, by show h0 ≤ K.length + 1; omega, (Heap.get_len_add _ _ 1).trans rfl⟩ ?_ ?_
    · exact weakS_vk vk0 (by simp -dsimp -implicitDefEqProofs (disch := omega) [go_sem, -List.getD_eq_getElem?_getD, ite_yes, htp, htv, hut, tTo])
    clear vk0 vk1 kq1
    rintro ⟨k, g, c, G⟩ ⟨hk, hV, hQ, cnet, hlen, hgb, hgg⟩
    simp only at hk hV hQ cnet hlen hgb hgg ⊢
    have gtv : tv < G.length := Nat.lt_of_lt_of_le htv hQ.1
    have gtp : tp < G.length := Nat.lt_of_lt_of_le htp hQ.1
    have gut : u < G.length := Nat.lt_of_lt_of_le hut hQ.1
    have ggt := Heap.get_lt hgg
    have gS := hQ.sl hS
    have gP := hQ.sl hP
    have gA := hQ.get hu
    have gSu : Sl nmE G u a := ⟨_, [], gA, by simp⟩
    by_cases hlt : k < l.length
    rotate_left
    · obtain rfl : k = l.length := by omega
      generalize tTo (tourW l.length (walkZ n ps l src) f) a l.length = R at *
      simp -dsimp -implicitDefEqProofs (disch := omega) [go_sem, -List.getD_eq_getElem?_getD, ite_yes]
      exact EndR.of (.tuple #[.slice (some ⟨g, 0, none⟩) R.1.length c, .int .i64 R.2]) G ⟨g, c, rfl, hgg, hV, hQ, hgb⟩ (fin_vk hV (by simp -dsimp -implicitDefEqProofs (disch := omega) [go_sem, -List.getD_eq_getElem?_getD, ite_yes, ggt]))
    have hlti : (k : Int) < (l.length : Int) := by omega
    have e : tTo (tourW l.length (walkZ n ps l src) f) a (k + 1) = if hasI a k = true then tTo (tourW l.length (walkZ n ps l src) f) a k else if (tTo (tourW l.length (walkZ n ps l src) f) a k).2 < 0 ∨ (tourW l.length (walkZ n ps l src) f (a ++ [(k : Int)])).2 < (tTo (tourW l.length (walkZ n ps l src) f) a k).2 then tourW l.length (walkZ n ps l src) f (a ++ [(k : Int)]) else tTo (tourW l.length (walkZ n ps l src) f) a k := rfl
    simp -dsimp -implicitDefEqProofs (disch := omega) [go_sem, -List.getD_eq_getElem?_getD, ite_yes, hlti]
    refine ACall.of (l1Has_A a k (by omega) d _ u gSu) ?_
    cases hn : hasI a (k : Int) with
    | true =>
      rw [hn, if_pos rfl] at e
      simp -dsimp -implicitDefEqProofs (disch := omega) [go_sem, -List.getD_eq_getElem?_getD, ite_yes]
      exact LoopEnd.of (k + 1, g, c, G) ⟨by omega, hV, hQ, cnet, hlen, hgb, by rw [e]; exact hgg⟩ (by omega) (weakS_vk hV (by simp -dsimp -implicitDefEqProofs (disch := omega) [go_sem, -List.getD_eq_getElem?_getD, ite_yes, gtp, gtv, gut, ggt, hlen, e]))
    | false =>
    rw [hn, if_neg Bool.false_ne_true] at e
    have hgood := hg.snoc hlt hn
    have rE : ∀ (d' u' : Nat) (G' : Heap), Sl ppE G' tp ps → Sl tkE G' tv l → G'.get u' = some ⟨(a ++ [(k : Int)]).flatMap nmE, true, 3, 1⟩ → h0 ≤ u' → h0 ≤ G'.length →
        AFunR Try.prog 44 [netV n tp ps.length cp, .slice (some ⟨tv, 0, none⟩) l.length cv, .int .i64 src, .slice (some ⟨u', 0, none⟩) (a.length + 1) d'] G' (YOutS h0 G' (tourW l.length (walkZ n ps l src) f (a ++ [(k : Int)]))) := by
      intro d' u' G' h1 h2 h5 h6 h7
      have := l22Tour_R n ps l src ok tp cp tv cv h0 f (a ++ [(k : Int)]) d' u' G' hgood (by have := hgood.le; rw [List.length_append, List.length_singleton] at this ⊢; omega) h1 h2 h5 h6 h7
      rwa [List.length_append, List.length_singleton] at this
    have eap : (a ++ [(k : Int)]).flatMap nmE = a.flatMap nmE ++ [.int .i64 (k : Int)] := by rw [List.flatMap_append]; rfl
    have hfa : (a.flatMap nmE).length = a.length := by rw [nmE_length]; omega
    generalize tourW l.length (walkZ n ps l src) f (a ++ [(k : Int)]) = r at *
    generalize hRk : tTo (tourW l.length (walkZ n ps l src) f) a k = R at *
    simp -dsimp -implicitDefEqProofs (disch := omega) [go_sem, -List.getD_eq_getElem?_getD, ite_yes]
    refine ADraw.midR (fun fr1 H1 => ∃ g' c', fr1 = [(1, .slice (some ⟨tv, 0, none⟩) l.length cv), (2, .int .i64 src), (3, .slice (some ⟨u, 0, none⟩) a.length d), (4, .pointer (some ⟨K.length, 0, none⟩)), (10, .slice (some ⟨g, 0, none⟩) R.1.length c), (11, .int .i64 R.2), (12, .int .i64 k), (13, .slice (some ⟨g', 0, none⟩) r.1.length c'), (14, .int .i64 r.2)] ∧ H1.get g' = some ⟨r.1.flatMap nmE, true, 3, 1⟩ ∧ KQ G H1 ∧ VK K H1 ∧ h0 ≤ g' ∧ g' < H1.length) ?_ ?_
    · skip
      refine ADraw.any G (by kernel_rfl) (SubH.refl) ?_
      refine AAny.takes (fuel := 10) (by kernel_rfl) (by kernel_rfl) [1, 2, 3, 5] (by kernel_rfl) (by kernel_rfl) ?_
      simp -dsimp -implicitDefEqProofs (disch := omega) [go_sem, -List.getD_eq_getElem?_getD, ite_yes, hlti, hlt, hlen, cnet, gut, hfa]
      refine AAny.three 9 0 4 6 (by kernel_rfl) (by kernel_rfl) (by kernel_rfl) ?_ ?_ ?_
      · simp -dsimp -implicitDefEqProofs (disch := omega) [go_sem, -List.getD_eq_getElem?_getD, ite_yes, hlti, hlt, hlen, cnet, gut, hfa]
        first | refine AAt.of (by first | exact SubH.refl | exact SubH.app | exact (KQ.app.trans hQ').sub) ?_ | (refine ⟨?_, AAt.of (by first | exact SubH.refl | exact SubH.app | exact (KQ.app.trans hQ').sub) ?_⟩; · omega)
        refine AAny.two 8 4 6 (by kernel_rfl) (by kernel_rfl) (by kernel_rfl) ?_ ?_
        · simp -dsimp -implicitDefEqProofs (disch := omega) [go_sem, -List.getD_eq_getElem?_getD, ite_yes, hlti, hlt, hlen, cnet, gut, hfa]
          first | refine ACall.of (l1OwnI_A a (by omega) d _ u gSu) ?_ | refine ACall.of (l1OwnI_A a (by omega) d _ u gSu.app) ?_
          simp -dsimp -implicitDefEqProofs (disch := omega) [go_sem, -List.getD_eq_getElem?_getD, ite_yes, hlti, hlt, hlen, cnet, gut, hfa]
          first | refine AAt.of (by first | exact SubH.refl | exact SubH.app | exact (KQ.app.trans hQ').sub) ?_ | (refine ⟨?_, AAt.of (by first | exact SubH.refl | exact SubH.app | exact (KQ.app.trans hQ').sub) ?_⟩; · omega)
          refine AAny.one 7 6 (by kernel_rfl) (by kernel_rfl) (by kernel_rfl) ?_
          simp -dsimp -implicitDefEqProofs (disch := omega) [go_sem, -List.getD_eq_getElem?_getD, ite_yes, hlti, hlt, hlen, cnet, gut, hfa]
          first | refine AAt.of (by first | exact SubH.refl | exact SubH.app | exact (KQ.app.trans hQ').sub) ?_ | (refine ⟨?_, AAt.of (by first | exact SubH.refl | exact SubH.app | exact (KQ.app.trans hQ').sub) ?_⟩; · omega)
          refine AAny.one 6 7 (by kernel_rfl) (by kernel_rfl) (by kernel_rfl) ?_
          simp -dsimp -implicitDefEqProofs (disch := omega) [go_sem, -List.getD_eq_getElem?_getD, ite_yes, hlti, hlt, hlen, cnet, gut, hfa]
          first | refine AAt.of (by first | exact SubH.refl | exact SubH.app | exact (KQ.app.trans hQ').sub) ?_ | (refine ⟨?_, AAt.of (by first | exact SubH.refl | exact SubH.app | exact (KQ.app.trans hQ').sub) ?_⟩; · omega)
          refine AAny.one 5 8 (by kernel_rfl) (by kernel_rfl) (by kernel_rfl) ?_
          simp -dsimp -implicitDefEqProofs (disch := omega) [go_sem, -List.getD_eq_getElem?_getD, ite_yes, hlti, hlt, hlen, cnet, gut, hfa]
          refine ACall.via (rE _ (G.length + 2) _ gP.app gS.app ((Heap.get_len_add _ _ 2).trans (by rw [eap]; rfl)) (by have := hQ.1; omega) (by have := hQ.1; simp; omega)) ?_
          rintro v G' ⟨g', c', rfl, hg', hV', hQ', hgb'⟩
          simp -dsimp -implicitDefEqProofs (disch := omega) [go_sem, -List.getD_eq_getElem?_getD, ite_yes, hlti, hlt, hlen, cnet, gut, hfa]
          first | refine AAt.of (by first | exact SubH.refl | exact SubH.app | exact (KQ.app.trans hQ').sub) ?_ | (refine ⟨?_, AAt.of (by first | exact SubH.refl | exact SubH.app | exact (KQ.app.trans hQ').sub) ?_⟩; · omega)
          refine AAny.takes (fuel := 0) (by kernel_rfl) (by kernel_rfl) [9, 10, 11, 12, 13] (by kernel_rfl) (by kernel_rfl) ?_
          simp -dsimp -implicitDefEqProofs (disch := omega) [go_sem, -List.getD_eq_getElem?_getD, ite_yes, hlti, hlt, hlen, cnet, gut, hfa]
          refine AAny.done (by kernel_rfl) ?_
          simp -dsimp -implicitDefEqProofs (disch := omega) [go_sem, -List.getD_eq_getElem?_getD, ite_yes, hlti, hlt, hlen, cnet, gut, hfa]
          have kq := KQ.app.trans hQ'
          have kV := (hV.trans (VK.app (flat3 (by first | exact trivial | exact (rfl : ([Value.int .i64 (k : Int)] : List Value).all flat = true) | exact nmE_flat _ | exact eap ▸ nmE_flat _) (by first | exact trivial | exact (rfl : ([Value.int .i64 (k : Int)] : List Value).all flat = true) | exact nmE_flat _ | exact eap ▸ nmE_flat _) (by first | exact trivial | exact (rfl : ([Value.int .i64 (k : Int)] : List Value).all flat = true) | exact nmE_flat _ | exact eap ▸ nmE_flat _)))).trans hV'
          have k1 := Nat.lt_of_lt_of_le gtp kq.1
          have k2 := Nat.lt_of_lt_of_le gtv kq.1
          have k4 := Nat.lt_of_lt_of_le gut kq.1
          have k5 := Nat.lt_of_lt_of_le ggt kq.1
          have k6 := Nat.lt_of_lt_of_le hlen kq.1
          have k7 := Heap.get_lt hg'
          exact ⟨_, G', ⟨g', ⟨c', rfl⟩, hg', kq, kV, hgb', k7⟩, weakS_vk kV (by simp -dsimp -implicitDefEqProofs (disch := omega) [go_sem, -List.getD_eq_getElem?_getD, ite_yes, k1, k2, k4, k5, k6, k7])⟩
        · simp -dsimp -implicitDefEqProofs (disch := omega) [go_sem, -List.getD_eq_getElem?_getD, ite_yes, hlti, hlt, hlen, cnet, gut, hfa]
          first | refine AAt.of (by first | exact SubH.refl | exact SubH.app | exact (KQ.app.trans hQ').sub) ?_ | (refine ⟨?_, AAt.of (by first | exact SubH.refl | exact SubH.app | exact (KQ.app.trans hQ').sub) ?_⟩; · omega)
          refine AAny.one 7 4 (by kernel_rfl) (by kernel_rfl) (by kernel_rfl) ?_
          simp -dsimp -implicitDefEqProofs (disch := omega) [go_sem, -List.getD_eq_getElem?_getD, ite_yes, hlti, hlt, hlen, cnet, gut, hfa]
          first | refine ACall.of (l1OwnI_A a (by omega) d _ u gSu) ?_ | refine ACall.of (l1OwnI_A a (by omega) d _ u gSu.app) ?_
          simp -dsimp -implicitDefEqProofs (disch := omega) [go_sem, -List.getD_eq_getElem?_getD, ite_yes, hlti, hlt, hlen, cnet, gut, hfa]
          first | refine AAt.of (by first | exact SubH.refl | exact SubH.app | exact (KQ.app.trans hQ').sub) ?_ | (refine ⟨?_, AAt.of (by first | exact SubH.refl | exact SubH.app | exact (KQ.app.trans hQ').sub) ?_⟩; · omega)
          refine AAny.one 6 7 (by kernel_rfl) (by kernel_rfl) (by kernel_rfl) ?_
          simp -dsimp -implicitDefEqProofs (disch := omega) [go_sem, -List.getD_eq_getElem?_getD, ite_yes, hlti, hlt, hlen, cnet, gut, hfa]
          first | refine AAt.of (by first | exact SubH.refl | exact SubH.app | exact (KQ.app.trans hQ').sub) ?_ | (refine ⟨?_, AAt.of (by first | exact SubH.refl | exact SubH.app | exact (KQ.app.trans hQ').sub) ?_⟩; · omega)
          refine AAny.one 5 8 (by kernel_rfl) (by kernel_rfl) (by kernel_rfl) ?_
          simp -dsimp -implicitDefEqProofs (disch := omega) [go_sem, -List.getD_eq_getElem?_getD, ite_yes, hlti, hlt, hlen, cnet, gut, hfa]
          refine ACall.via (rE _ (G.length + 2) _ gP.app gS.app ((Heap.get_len_add _ _ 2).trans (by rw [eap]; rfl)) (by have := hQ.1; omega) (by have := hQ.1; simp; omega)) ?_
          rintro v G' ⟨g', c', rfl, hg', hV', hQ', hgb'⟩
          simp -dsimp -implicitDefEqProofs (disch := omega) [go_sem, -List.getD_eq_getElem?_getD, ite_yes, hlti, hlt, hlen, cnet, gut, hfa]
          first | refine AAt.of (by first | exact SubH.refl | exact SubH.app | exact (KQ.app.trans hQ').sub) ?_ | (refine ⟨?_, AAt.of (by first | exact SubH.refl | exact SubH.app | exact (KQ.app.trans hQ').sub) ?_⟩; · omega)
          refine AAny.takes (fuel := 0) (by kernel_rfl) (by kernel_rfl) [9, 10, 11, 12, 13] (by kernel_rfl) (by kernel_rfl) ?_
          simp -dsimp -implicitDefEqProofs (disch := omega) [go_sem, -List.getD_eq_getElem?_getD, ite_yes, hlti, hlt, hlen, cnet, gut, hfa]
          refine AAny.done (by kernel_rfl) ?_
          simp -dsimp -implicitDefEqProofs (disch := omega) [go_sem, -List.getD_eq_getElem?_getD, ite_yes, hlti, hlt, hlen, cnet, gut, hfa]
          have kq := KQ.app.trans hQ'
          have kV := (hV.trans (VK.app (flat3 (by first | exact trivial | exact (rfl : ([Value.int .i64 (k : Int)] : List Value).all flat = true) | exact nmE_flat _ | exact eap ▸ nmE_flat _) (by first | exact trivial | exact (rfl : ([Value.int .i64 (k : Int)] : List Value).all flat = true) | exact nmE_flat _ | exact eap ▸ nmE_flat _) (by first | exact trivial | exact (rfl : ([Value.int .i64 (k : Int)] : List Value).all flat = true) | exact nmE_flat _ | exact eap ▸ nmE_flat _)))).trans hV'
          have k1 := Nat.lt_of_lt_of_le gtp kq.1
          have k2 := Nat.lt_of_lt_of_le gtv kq.1
          have k4 := Nat.lt_of_lt_of_le gut kq.1
          have k5 := Nat.lt_of_lt_of_le ggt kq.1
          have k6 := Nat.lt_of_lt_of_le hlen kq.1
          have k7 := Heap.get_lt hg'
          exact ⟨_, G', ⟨g', ⟨c', rfl⟩, hg', kq, kV, hgb', k7⟩, weakS_vk kV (by simp -dsimp -implicitDefEqProofs (disch := omega) [go_sem, -List.getD_eq_getElem?_getD, ite_yes, k1, k2, k4, k5, k6, k7])⟩
      · simp -dsimp -implicitDefEqProofs (disch := omega) [go_sem, -List.getD_eq_getElem?_getD, ite_yes, hlti, hlt, hlen, cnet, gut, hfa]
        first | refine ACall.of (l1OwnI_A a (by omega) d _ u gSu) ?_ | refine ACall.of (l1OwnI_A a (by omega) d _ u gSu.app) ?_
        simp -dsimp -implicitDefEqProofs (disch := omega) [go_sem, -List.getD_eq_getElem?_getD, ite_yes, hlti, hlt, hlen, cnet, gut, hfa]
        first | refine AAt.of (by first | exact SubH.refl | exact SubH.app | exact (KQ.app.trans hQ').sub) ?_ | (refine ⟨?_, AAt.of (by first | exact SubH.refl | exact SubH.app | exact (KQ.app.trans hQ').sub) ?_⟩; · omega)
        refine AAny.two 8 0 6 (by kernel_rfl) (by kernel_rfl) (by kernel_rfl) ?_ ?_
        · simp -dsimp -implicitDefEqProofs (disch := omega) [go_sem, -List.getD_eq_getElem?_getD, ite_yes, hlti, hlt, hlen, cnet, gut, hfa]
          first | refine AAt.of (by first | exact SubH.refl | exact SubH.app | exact (KQ.app.trans hQ').sub) ?_ | (refine ⟨?_, AAt.of (by first | exact SubH.refl | exact SubH.app | exact (KQ.app.trans hQ').sub) ?_⟩; · omega)
          refine AAny.one 7 6 (by kernel_rfl) (by kernel_rfl) (by kernel_rfl) ?_
          simp -dsimp -implicitDefEqProofs (disch := omega) [go_sem, -List.getD_eq_getElem?_getD, ite_yes, hlti, hlt, hlen, cnet, gut, hfa]
          first | refine AAt.of (by first | exact SubH.refl | exact SubH.app | exact (KQ.app.trans hQ').sub) ?_ | (refine ⟨?_, AAt.of (by first | exact SubH.refl | exact SubH.app | exact (KQ.app.trans hQ').sub) ?_⟩; · omega)
          refine AAny.one 6 7 (by kernel_rfl) (by kernel_rfl) (by kernel_rfl) ?_
          simp -dsimp -implicitDefEqProofs (disch := omega) [go_sem, -List.getD_eq_getElem?_getD, ite_yes, hlti, hlt, hlen, cnet, gut, hfa]
          first | refine AAt.of (by first | exact SubH.refl | exact SubH.app | exact (KQ.app.trans hQ').sub) ?_ | (refine ⟨?_, AAt.of (by first | exact SubH.refl | exact SubH.app | exact (KQ.app.trans hQ').sub) ?_⟩; · omega)
          refine AAny.one 5 8 (by kernel_rfl) (by kernel_rfl) (by kernel_rfl) ?_
          simp -dsimp -implicitDefEqProofs (disch := omega) [go_sem, -List.getD_eq_getElem?_getD, ite_yes, hlti, hlt, hlen, cnet, gut, hfa]
          refine ACall.via (rE _ (G.length + 2) _ gP.app gS.app ((Heap.get_len_add _ _ 2).trans (by rw [eap]; rfl)) (by have := hQ.1; omega) (by have := hQ.1; simp; omega)) ?_
          rintro v G' ⟨g', c', rfl, hg', hV', hQ', hgb'⟩
          simp -dsimp -implicitDefEqProofs (disch := omega) [go_sem, -List.getD_eq_getElem?_getD, ite_yes, hlti, hlt, hlen, cnet, gut, hfa]
          first | refine AAt.of (by first | exact SubH.refl | exact SubH.app | exact (KQ.app.trans hQ').sub) ?_ | (refine ⟨?_, AAt.of (by first | exact SubH.refl | exact SubH.app | exact (KQ.app.trans hQ').sub) ?_⟩; · omega)
          refine AAny.takes (fuel := 0) (by kernel_rfl) (by kernel_rfl) [9, 10, 11, 12, 13] (by kernel_rfl) (by kernel_rfl) ?_
          simp -dsimp -implicitDefEqProofs (disch := omega) [go_sem, -List.getD_eq_getElem?_getD, ite_yes, hlti, hlt, hlen, cnet, gut, hfa]
          refine AAny.done (by kernel_rfl) ?_
          simp -dsimp -implicitDefEqProofs (disch := omega) [go_sem, -List.getD_eq_getElem?_getD, ite_yes, hlti, hlt, hlen, cnet, gut, hfa]
          have kq := KQ.app.trans hQ'
          have kV := (hV.trans (VK.app (flat3 (by first | exact trivial | exact (rfl : ([Value.int .i64 (k : Int)] : List Value).all flat = true) | exact nmE_flat _ | exact eap ▸ nmE_flat _) (by first | exact trivial | exact (rfl : ([Value.int .i64 (k : Int)] : List Value).all flat = true) | exact nmE_flat _ | exact eap ▸ nmE_flat _) (by first | exact trivial | exact (rfl : ([Value.int .i64 (k : Int)] : List Value).all flat = true) | exact nmE_flat _ | exact eap ▸ nmE_flat _)))).trans hV'
          have k1 := Nat.lt_of_lt_of_le gtp kq.1
          have k2 := Nat.lt_of_lt_of_le gtv kq.1
          have k4 := Nat.lt_of_lt_of_le gut kq.1
          have k5 := Nat.lt_of_lt_of_le ggt kq.1
          have k6 := Nat.lt_of_lt_of_le hlen kq.1
          have k7 := Heap.get_lt hg'
          exact ⟨_, G', ⟨g', ⟨c', rfl⟩, hg', kq, kV, hgb', k7⟩, weakS_vk kV (by simp -dsimp -implicitDefEqProofs (disch := omega) [go_sem, -List.getD_eq_getElem?_getD, ite_yes, k1, k2, k4, k5, k6, k7])⟩
        · simp -dsimp -implicitDefEqProofs (disch := omega) [go_sem, -List.getD_eq_getElem?_getD, ite_yes, hlti, hlt, hlen, cnet, gut, hfa]
          first | refine AAt.of (by first | exact SubH.refl | exact SubH.app | exact (KQ.app.trans hQ').sub) ?_ | (refine ⟨?_, AAt.of (by first | exact SubH.refl | exact SubH.app | exact (KQ.app.trans hQ').sub) ?_⟩; · omega)
          refine AAny.two 7 0 7 (by kernel_rfl) (by kernel_rfl) (by kernel_rfl) ?_ ?_
          · simp -dsimp -implicitDefEqProofs (disch := omega) [go_sem, -List.getD_eq_getElem?_getD, ite_yes, hlti, hlt, hlen, cnet, gut, hfa]
            first | refine AAt.of (by first | exact SubH.refl | exact SubH.app | exact (KQ.app.trans hQ').sub) ?_ | (refine ⟨?_, AAt.of (by first | exact SubH.refl | exact SubH.app | exact (KQ.app.trans hQ').sub) ?_⟩; · omega)
            refine AAny.one 6 7 (by kernel_rfl) (by kernel_rfl) (by kernel_rfl) ?_
            simp -dsimp -implicitDefEqProofs (disch := omega) [go_sem, -List.getD_eq_getElem?_getD, ite_yes, hlti, hlt, hlen, cnet, gut, hfa]
            first | refine AAt.of (by first | exact SubH.refl | exact SubH.app | exact (KQ.app.trans hQ').sub) ?_ | (refine ⟨?_, AAt.of (by first | exact SubH.refl | exact SubH.app | exact (KQ.app.trans hQ').sub) ?_⟩; · omega)
            refine AAny.one 5 8 (by kernel_rfl) (by kernel_rfl) (by kernel_rfl) ?_
            simp -dsimp -implicitDefEqProofs (disch := omega) [go_sem, -List.getD_eq_getElem?_getD, ite_yes, hlti, hlt, hlen, cnet, gut, hfa]
            refine ACall.via (rE _ (G.length + 2) _ gP.app gS.app ((Heap.get_len_add _ _ 2).trans (by rw [eap]; rfl)) (by have := hQ.1; omega) (by have := hQ.1; simp; omega)) ?_
            rintro v G' ⟨g', c', rfl, hg', hV', hQ', hgb'⟩
            simp -dsimp -implicitDefEqProofs (disch := omega) [go_sem, -List.getD_eq_getElem?_getD, ite_yes, hlti, hlt, hlen, cnet, gut, hfa]
            first | refine AAt.of (by first | exact SubH.refl | exact SubH.app | exact (KQ.app.trans hQ').sub) ?_ | (refine ⟨?_, AAt.of (by first | exact SubH.refl | exact SubH.app | exact (KQ.app.trans hQ').sub) ?_⟩; · omega)
            refine AAny.takes (fuel := 0) (by kernel_rfl) (by kernel_rfl) [9, 10, 11, 12, 13] (by kernel_rfl) (by kernel_rfl) ?_
            simp -dsimp -implicitDefEqProofs (disch := omega) [go_sem, -List.getD_eq_getElem?_getD, ite_yes, hlti, hlt, hlen, cnet, gut, hfa]
            refine AAny.done (by kernel_rfl) ?_
            simp -dsimp -implicitDefEqProofs (disch := omega) [go_sem, -List.getD_eq_getElem?_getD, ite_yes, hlti, hlt, hlen, cnet, gut, hfa]
            have kq := KQ.app.trans hQ'
            have kV := (hV.trans (VK.app (flat3 (by first | exact trivial | exact (rfl : ([Value.int .i64 (k : Int)] : List Value).all flat = true) | exact nmE_flat _ | exact eap ▸ nmE_flat _) (by first | exact trivial | exact (rfl : ([Value.int .i64 (k : Int)] : List Value).all flat = true) | exact nmE_flat _ | exact eap ▸ nmE_flat _) (by first | exact trivial | exact (rfl : ([Value.int .i64 (k : Int)] : List Value).all flat = true) | exact nmE_flat _ | exact eap ▸ nmE_flat _)))).trans hV'
            have k1 := Nat.lt_of_lt_of_le gtp kq.1
            have k2 := Nat.lt_of_lt_of_le gtv kq.1
            have k4 := Nat.lt_of_lt_of_le gut kq.1
            have k5 := Nat.lt_of_lt_of_le ggt kq.1
            have k6 := Nat.lt_of_lt_of_le hlen kq.1
            have k7 := Heap.get_lt hg'
            exact ⟨_, G', ⟨g', ⟨c', rfl⟩, hg', kq, kV, hgb', k7⟩, weakS_vk kV (by simp -dsimp -implicitDefEqProofs (disch := omega) [go_sem, -List.getD_eq_getElem?_getD, ite_yes, k1, k2, k4, k5, k6, k7])⟩
          · simp -dsimp -implicitDefEqProofs (disch := omega) [go_sem, -List.getD_eq_getElem?_getD, ite_yes, hlti, hlt, hlen, cnet, gut, hfa]
            first | refine AAt.of (by first | exact SubH.refl | exact SubH.app | exact (KQ.app.trans hQ').sub) ?_ | (refine ⟨?_, AAt.of (by first | exact SubH.refl | exact SubH.app | exact (KQ.app.trans hQ').sub) ?_⟩; · omega)
            refine AAny.one 6 0 (by kernel_rfl) (by kernel_rfl) (by kernel_rfl) ?_
            simp -dsimp -implicitDefEqProofs (disch := omega) [go_sem, -List.getD_eq_getElem?_getD, ite_yes, hlti, hlt, hlen, cnet, gut, hfa]
            first | refine AAt.of (by first | exact SubH.refl | exact SubH.app | exact (KQ.app.trans hQ').sub) ?_ | (refine ⟨?_, AAt.of (by first | exact SubH.refl | exact SubH.app | exact (KQ.app.trans hQ').sub) ?_⟩; · omega)
            refine AAny.one 5 8 (by kernel_rfl) (by kernel_rfl) (by kernel_rfl) ?_
            simp -dsimp -implicitDefEqProofs (disch := omega) [go_sem, -List.getD_eq_getElem?_getD, ite_yes, hlti, hlt, hlen, cnet, gut, hfa]
            refine ACall.via (rE _ (G.length + 2) _ gP.app gS.app ((Heap.get_len_add _ _ 2).trans (by rw [eap]; rfl)) (by have := hQ.1; omega) (by have := hQ.1; simp; omega)) ?_
            rintro v G' ⟨g', c', rfl, hg', hV', hQ', hgb'⟩
            simp -dsimp -implicitDefEqProofs (disch := omega) [go_sem, -List.getD_eq_getElem?_getD, ite_yes, hlti, hlt, hlen, cnet, gut, hfa]
            first | refine AAt.of (by first | exact SubH.refl | exact SubH.app | exact (KQ.app.trans hQ').sub) ?_ | (refine ⟨?_, AAt.of (by first | exact SubH.refl | exact SubH.app | exact (KQ.app.trans hQ').sub) ?_⟩; · omega)
            refine AAny.takes (fuel := 0) (by kernel_rfl) (by kernel_rfl) [9, 10, 11, 12, 13] (by kernel_rfl) (by kernel_rfl) ?_
            simp -dsimp -implicitDefEqProofs (disch := omega) [go_sem, -List.getD_eq_getElem?_getD, ite_yes, hlti, hlt, hlen, cnet, gut, hfa]
            refine AAny.done (by kernel_rfl) ?_
            simp -dsimp -implicitDefEqProofs (disch := omega) [go_sem, -List.getD_eq_getElem?_getD, ite_yes, hlti, hlt, hlen, cnet, gut, hfa]
            have kq := KQ.app.trans hQ'
            have kV := (hV.trans (VK.app (flat3 (by first | exact trivial | exact (rfl : ([Value.int .i64 (k : Int)] : List Value).all flat = true) | exact nmE_flat _ | exact eap ▸ nmE_flat _) (by first | exact trivial | exact (rfl : ([Value.int .i64 (k : Int)] : List Value).all flat = true) | exact nmE_flat _ | exact eap ▸ nmE_flat _) (by first | exact trivial | exact (rfl : ([Value.int .i64 (k : Int)] : List Value).all flat = true) | exact nmE_flat _ | exact eap ▸ nmE_flat _)))).trans hV'
            have k1 := Nat.lt_of_lt_of_le gtp kq.1
            have k2 := Nat.lt_of_lt_of_le gtv kq.1
            have k4 := Nat.lt_of_lt_of_le gut kq.1
            have k5 := Nat.lt_of_lt_of_le ggt kq.1
            have k6 := Nat.lt_of_lt_of_le hlen kq.1
            have k7 := Heap.get_lt hg'
            exact ⟨_, G', ⟨g', ⟨c', rfl⟩, hg', kq, kV, hgb', k7⟩, weakS_vk kV (by simp -dsimp -implicitDefEqProofs (disch := omega) [go_sem, -List.getD_eq_getElem?_getD, ite_yes, k1, k2, k4, k5, k6, k7])⟩
      · simp -dsimp -implicitDefEqProofs (disch := omega) [go_sem, -List.getD_eq_getElem?_getD, ite_yes, hlti, hlt, hlen, cnet, gut, hfa]
        first | refine AAt.of (by first | exact SubH.refl | exact SubH.app | exact (KQ.app.trans hQ').sub) ?_ | (refine ⟨?_, AAt.of (by first | exact SubH.refl | exact SubH.app | exact (KQ.app.trans hQ').sub) ?_⟩; · omega)
        refine AAny.two 8 0 4 (by kernel_rfl) (by kernel_rfl) (by kernel_rfl) ?_ ?_
        · simp -dsimp -implicitDefEqProofs (disch := omega) [go_sem, -List.getD_eq_getElem?_getD, ite_yes, hlti, hlt, hlen, cnet, gut, hfa]
          first | refine AAt.of (by first | exact SubH.refl | exact SubH.app | exact (KQ.app.trans hQ').sub) ?_ | (refine ⟨?_, AAt.of (by first | exact SubH.refl | exact SubH.app | exact (KQ.app.trans hQ').sub) ?_⟩; · omega)
          refine AAny.one 7 4 (by kernel_rfl) (by kernel_rfl) (by kernel_rfl) ?_
          simp -dsimp -implicitDefEqProofs (disch := omega) [go_sem, -List.getD_eq_getElem?_getD, ite_yes, hlti, hlt, hlen, cnet, gut, hfa]
          first | refine ACall.of (l1OwnI_A a (by omega) d _ u gSu) ?_ | refine ACall.of (l1OwnI_A a (by omega) d _ u gSu.app) ?_
          simp -dsimp -implicitDefEqProofs (disch := omega) [go_sem, -List.getD_eq_getElem?_getD, ite_yes, hlti, hlt, hlen, cnet, gut, hfa]
          first | refine AAt.of (by first | exact SubH.refl | exact SubH.app | exact (KQ.app.trans hQ').sub) ?_ | (refine ⟨?_, AAt.of (by first | exact SubH.refl | exact SubH.app | exact (KQ.app.trans hQ').sub) ?_⟩; · omega)
          refine AAny.one 6 7 (by kernel_rfl) (by kernel_rfl) (by kernel_rfl) ?_
          simp -dsimp -implicitDefEqProofs (disch := omega) [go_sem, -List.getD_eq_getElem?_getD, ite_yes, hlti, hlt, hlen, cnet, gut, hfa]
          first | refine AAt.of (by first | exact SubH.refl | exact SubH.app | exact (KQ.app.trans hQ').sub) ?_ | (refine ⟨?_, AAt.of (by first | exact SubH.refl | exact SubH.app | exact (KQ.app.trans hQ').sub) ?_⟩; · omega)
          refine AAny.one 5 8 (by kernel_rfl) (by kernel_rfl) (by kernel_rfl) ?_
          simp -dsimp -implicitDefEqProofs (disch := omega) [go_sem, -List.getD_eq_getElem?_getD, ite_yes, hlti, hlt, hlen, cnet, gut, hfa]
          refine ACall.via (rE _ (G.length + 2) _ gP.app gS.app ((Heap.get_len_add _ _ 2).trans (by rw [eap]; rfl)) (by have := hQ.1; omega) (by have := hQ.1; simp; omega)) ?_
          rintro v G' ⟨g', c', rfl, hg', hV', hQ', hgb'⟩
          simp -dsimp -implicitDefEqProofs (disch := omega) [go_sem, -List.getD_eq_getElem?_getD, ite_yes, hlti, hlt, hlen, cnet, gut, hfa]
          first | refine AAt.of (by first | exact SubH.refl | exact SubH.app | exact (KQ.app.trans hQ').sub) ?_ | (refine ⟨?_, AAt.of (by first | exact SubH.refl | exact SubH.app | exact (KQ.app.trans hQ').sub) ?_⟩; · omega)
          refine AAny.takes (fuel := 0) (by kernel_rfl) (by kernel_rfl) [9, 10, 11, 12, 13] (by kernel_rfl) (by kernel_rfl) ?_
          simp -dsimp -implicitDefEqProofs (disch := omega) [go_sem, -List.getD_eq_getElem?_getD, ite_yes, hlti, hlt, hlen, cnet, gut, hfa]
          refine AAny.done (by kernel_rfl) ?_
          simp -dsimp -implicitDefEqProofs (disch := omega) [go_sem, -List.getD_eq_getElem?_getD, ite_yes, hlti, hlt, hlen, cnet, gut, hfa]
          have kq := KQ.app.trans hQ'
          have kV := (hV.trans (VK.app (flat3 (by first | exact trivial | exact (rfl : ([Value.int .i64 (k : Int)] : List Value).all flat = true) | exact nmE_flat _ | exact eap ▸ nmE_flat _) (by first | exact trivial | exact (rfl : ([Value.int .i64 (k : Int)] : List Value).all flat = true) | exact nmE_flat _ | exact eap ▸ nmE_flat _) (by first | exact trivial | exact (rfl : ([Value.int .i64 (k : Int)] : List Value).all flat = true) | exact nmE_flat _ | exact eap ▸ nmE_flat _)))).trans hV'
          have k1 := Nat.lt_of_lt_of_le gtp kq.1
          have k2 := Nat.lt_of_lt_of_le gtv kq.1
          have k4 := Nat.lt_of_lt_of_le gut kq.1
          have k5 := Nat.lt_of_lt_of_le ggt kq.1
          have k6 := Nat.lt_of_lt_of_le hlen kq.1
          have k7 := Heap.get_lt hg'
          exact ⟨_, G', ⟨g', ⟨c', rfl⟩, hg', kq, kV, hgb', k7⟩, weakS_vk kV (by simp -dsimp -implicitDefEqProofs (disch := omega) [go_sem, -List.getD_eq_getElem?_getD, ite_yes, k1, k2, k4, k5, k6, k7])⟩
        · simp -dsimp -implicitDefEqProofs (disch := omega) [go_sem, -List.getD_eq_getElem?_getD, ite_yes, hlti, hlt, hlen, cnet, gut, hfa]
          first | refine ACall.of (l1OwnI_A a (by omega) d _ u gSu) ?_ | refine ACall.of (l1OwnI_A a (by omega) d _ u gSu.app) ?_
          simp -dsimp -implicitDefEqProofs (disch := omega) [go_sem, -List.getD_eq_getElem?_getD, ite_yes, hlti, hlt, hlen, cnet, gut, hfa]
          first | refine AAt.of (by first | exact SubH.refl | exact SubH.app | exact (KQ.app.trans hQ').sub) ?_ | (refine ⟨?_, AAt.of (by first | exact SubH.refl | exact SubH.app | exact (KQ.app.trans hQ').sub) ?_⟩; · omega)
          refine AAny.two 7 0 7 (by kernel_rfl) (by kernel_rfl) (by kernel_rfl) ?_ ?_
          · simp -dsimp -implicitDefEqProofs (disch := omega) [go_sem, -List.getD_eq_getElem?_getD, ite_yes, hlti, hlt, hlen, cnet, gut, hfa]
            first | refine AAt.of (by first | exact SubH.refl | exact SubH.app | exact (KQ.app.trans hQ').sub) ?_ | (refine ⟨?_, AAt.of (by first | exact SubH.refl | exact SubH.app | exact (KQ.app.trans hQ').sub) ?_⟩; · omega)
            refine AAny.one 6 7 (by kernel_rfl) (by kernel_rfl) (by kernel_rfl) ?_
            simp -dsimp -implicitDefEqProofs (disch := omega) [go_sem, -List.getD_eq_getElem?_getD, ite_yes, hlti, hlt, hlen, cnet, gut, hfa]
            first | refine AAt.of (by first | exact SubH.refl | exact SubH.app | exact (KQ.app.trans hQ').sub) ?_ | (refine ⟨?_, AAt.of (by first | exact SubH.refl | exact SubH.app | exact (KQ.app.trans hQ').sub) ?_⟩; · omega)
            refine AAny.one 5 8 (by kernel_rfl) (by kernel_rfl) (by kernel_rfl) ?_
            simp -dsimp -implicitDefEqProofs (disch := omega) [go_sem, -List.getD_eq_getElem?_getD, ite_yes, hlti, hlt, hlen, cnet, gut, hfa]
            refine ACall.via (rE _ (G.length + 2) _ gP.app gS.app ((Heap.get_len_add _ _ 2).trans (by rw [eap]; rfl)) (by have := hQ.1; omega) (by have := hQ.1; simp; omega)) ?_
            rintro v G' ⟨g', c', rfl, hg', hV', hQ', hgb'⟩
            simp -dsimp -implicitDefEqProofs (disch := omega) [go_sem, -List.getD_eq_getElem?_getD, ite_yes, hlti, hlt, hlen, cnet, gut, hfa]
            first | refine AAt.of (by first | exact SubH.refl | exact SubH.app | exact (KQ.app.trans hQ').sub) ?_ | (refine ⟨?_, AAt.of (by first | exact SubH.refl | exact SubH.app | exact (KQ.app.trans hQ').sub) ?_⟩; · omega)
            refine AAny.takes (fuel := 0) (by kernel_rfl) (by kernel_rfl) [9, 10, 11, 12, 13] (by kernel_rfl) (by kernel_rfl) ?_
            simp -dsimp -implicitDefEqProofs (disch := omega) [go_sem, -List.getD_eq_getElem?_getD, ite_yes, hlti, hlt, hlen, cnet, gut, hfa]
            refine AAny.done (by kernel_rfl) ?_
            simp -dsimp -implicitDefEqProofs (disch := omega) [go_sem, -List.getD_eq_getElem?_getD, ite_yes, hlti, hlt, hlen, cnet, gut, hfa]
            have kq := KQ.app.trans hQ'
            have kV := (hV.trans (VK.app (flat3 (by first | exact trivial | exact (rfl : ([Value.int .i64 (k : Int)] : List Value).all flat = true) | exact nmE_flat _ | exact eap ▸ nmE_flat _) (by first | exact trivial | exact (rfl : ([Value.int .i64 (k : Int)] : List Value).all flat = true) | exact nmE_flat _ | exact eap ▸ nmE_flat _) (by first | exact trivial | exact (rfl : ([Value.int .i64 (k : Int)] : List Value).all flat = true) | exact nmE_flat _ | exact eap ▸ nmE_flat _)))).trans hV'
            have k1 := Nat.lt_of_lt_of_le gtp kq.1
            have k2 := Nat.lt_of_lt_of_le gtv kq.1
            have k4 := Nat.lt_of_lt_of_le gut kq.1
            have k5 := Nat.lt_of_lt_of_le ggt kq.1
            have k6 := Nat.lt_of_lt_of_le hlen kq.1
            have k7 := Heap.get_lt hg'
            exact ⟨_, G', ⟨g', ⟨c', rfl⟩, hg', kq, kV, hgb', k7⟩, weakS_vk kV (by simp -dsimp -implicitDefEqProofs (disch := omega) [go_sem, -List.getD_eq_getElem?_getD, ite_yes, k1, k2, k4, k5, k6, k7])⟩
          · simp -dsimp -implicitDefEqProofs (disch := omega) [go_sem, -List.getD_eq_getElem?_getD, ite_yes, hlti, hlt, hlen, cnet, gut, hfa]
            first | refine AAt.of (by first | exact SubH.refl | exact SubH.app | exact (KQ.app.trans hQ').sub) ?_ | (refine ⟨?_, AAt.of (by first | exact SubH.refl | exact SubH.app | exact (KQ.app.trans hQ').sub) ?_⟩; · omega)
            refine AAny.one 6 0 (by kernel_rfl) (by kernel_rfl) (by kernel_rfl) ?_
            simp -dsimp -implicitDefEqProofs (disch := omega) [go_sem, -List.getD_eq_getElem?_getD, ite_yes, hlti, hlt, hlen, cnet, gut, hfa]
            first | refine AAt.of (by first | exact SubH.refl | exact SubH.app | exact (KQ.app.trans hQ').sub) ?_ | (refine ⟨?_, AAt.of (by first | exact SubH.refl | exact SubH.app | exact (KQ.app.trans hQ').sub) ?_⟩; · omega)
            refine AAny.one 5 8 (by kernel_rfl) (by kernel_rfl) (by kernel_rfl) ?_
            simp -dsimp -implicitDefEqProofs (disch := omega) [go_sem, -List.getD_eq_getElem?_getD, ite_yes, hlti, hlt, hlen, cnet, gut, hfa]
            refine ACall.via (rE _ (G.length + 2) _ gP.app gS.app ((Heap.get_len_add _ _ 2).trans (by rw [eap]; rfl)) (by have := hQ.1; omega) (by have := hQ.1; simp; omega)) ?_
            rintro v G' ⟨g', c', rfl, hg', hV', hQ', hgb'⟩
            simp -dsimp -implicitDefEqProofs (disch := omega) [go_sem, -List.getD_eq_getElem?_getD, ite_yes, hlti, hlt, hlen, cnet, gut, hfa]
            first | refine AAt.of (by first | exact SubH.refl | exact SubH.app | exact (KQ.app.trans hQ').sub) ?_ | (refine ⟨?_, AAt.of (by first | exact SubH.refl | exact SubH.app | exact (KQ.app.trans hQ').sub) ?_⟩; · omega)
            refine AAny.takes (fuel := 0) (by kernel_rfl) (by kernel_rfl) [9, 10, 11, 12, 13] (by kernel_rfl) (by kernel_rfl) ?_
            simp -dsimp -implicitDefEqProofs (disch := omega) [go_sem, -List.getD_eq_getElem?_getD, ite_yes, hlti, hlt, hlen, cnet, gut, hfa]
            refine AAny.done (by kernel_rfl) ?_
            simp -dsimp -implicitDefEqProofs (disch := omega) [go_sem, -List.getD_eq_getElem?_getD, ite_yes, hlti, hlt, hlen, cnet, gut, hfa]
            have kq := KQ.app.trans hQ'
            have kV := (hV.trans (VK.app (flat3 (by first | exact trivial | exact (rfl : ([Value.int .i64 (k : Int)] : List Value).all flat = true) | exact nmE_flat _ | exact eap ▸ nmE_flat _) (by first | exact trivial | exact (rfl : ([Value.int .i64 (k : Int)] : List Value).all flat = true) | exact nmE_flat _ | exact eap ▸ nmE_flat _) (by first | exact trivial | exact (rfl : ([Value.int .i64 (k : Int)] : List Value).all flat = true) | exact nmE_flat _ | exact eap ▸ nmE_flat _)))).trans hV'
            have k1 := Nat.lt_of_lt_of_le gtp kq.1
            have k2 := Nat.lt_of_lt_of_le gtv kq.1
            have k4 := Nat.lt_of_lt_of_le gut kq.1
            have k5 := Nat.lt_of_lt_of_le ggt kq.1
            have k6 := Nat.lt_of_lt_of_le hlen kq.1
            have k7 := Heap.get_lt hg'
            exact ⟨_, G', ⟨g', ⟨c', rfl⟩, hg', kq, kV, hgb', k7⟩, weakS_vk kV (by simp -dsimp -implicitDefEqProofs (disch := omega) [go_sem, -List.getD_eq_getElem?_getD, ite_yes, k1, k2, k4, k5, k6, k7])⟩
    rintro fr1 G' ⟨g', c', rfl, hg', kq, kV, hgb', k7⟩
    have k1 := Nat.lt_of_lt_of_le gtp kq.1
    have k2 := Nat.lt_of_lt_of_le gtv kq.1
    have k4 := Nat.lt_of_lt_of_le gut kq.1
    have k5 := Nat.lt_of_lt_of_le ggt kq.1
    have k6 := Nat.lt_of_lt_of_le hlen kq.1
    by_cases h4 : R.2 < 0
    · rw [if_pos (.inl h4)] at e
      simp -dsimp -implicitDefEqProofs (disch := omega) [go_sem, -List.getD_eq_getElem?_getD, ite_yes, h4]
      exact LoopEnd.of (k + 1, g', c', G') ⟨by omega, kV, hQ.trans kq, kq.cells (by omega) cnet, k6, hgb', by rw [e]; exact hg'⟩ (by omega) (weakS_vk kV (by simp -dsimp -implicitDefEqProofs (disch := omega) [go_sem, -List.getD_eq_getElem?_getD, ite_yes, k1, k2, k4, k5, k6, k7, e]))
    by_cases h5 : r.2 < R.2
    · rw [if_pos (.inr h5)] at e
      simp -dsimp -implicitDefEqProofs (disch := omega) [go_sem, -List.getD_eq_getElem?_getD, ite_yes, h4, h5]
      exact LoopEnd.of (k + 1, g', c', G') ⟨by omega, kV, hQ.trans kq, kq.cells (by omega) cnet, k6, hgb', by rw [e]; exact hg'⟩ (by omega) (weakS_vk kV (by simp -dsimp -implicitDefEqProofs (disch := omega) [go_sem, -List.getD_eq_getElem?_getD, ite_yes, k1, k2, k4, k5, k6, k7, e]))
    · rw [if_neg (fun h => h.elim h4 h5)] at e
      simp -dsimp -implicitDefEqProofs (disch := omega) [go_sem, -List.getD_eq_getElem?_getD, ite_yes, h4, h5]
      exact LoopEnd.of (k + 1, g, c, G') ⟨by omega, kV, hQ.trans kq, kq.cells (by omega) cnet, k6, hgb, by rw [e]; exact kq.get hgg⟩ (by omega) (weakS_vk kV (by simp -dsimp -implicitDefEqProofs (disch := omega) [go_sem, -List.getD_eq_getElem?_getD, ite_yes, k1, k2, k4, k5, k6, k7, e]))
def twB (n : Int) (ps : List Pp) (l : List Tk) (src : Int) : Bool := decide (0 ≤ resW n ps l src) && decide (l.length ≤ 5)
theorem twB_ok {n : Int} {ps : List Pp} {l : List Tk} {src : Int} (h : twB n ps l src = true) : 0 ≤ resW n ps l src ∧ ∃ m : Nat, n = (m : Int) ∧ TourOk m ps l src := by
  simp only [twB, Bool.and_eq_true, decide_eq_true_eq] at h
  obtain ⟨h1, h2⟩ := h
  refine ⟨h1, ?_⟩
  cases hcw : cwB n ps l src with
  | false => rw [cwB_no hcw] at h1; omega
  | true =>
    obtain ⟨g1, g2, g3, g4⟩ := cwB_yes hcw
    have hN := NetAt.of g1
    have hn := hN.f_n
    obtain ⟨m, rfl⟩ : ∃ m : Nat, n = (m : Int) := ⟨n.toNat, by omega⟩
    rw [resW_good g1 g2 g3] at h1
    simp only [inB, Bool.and_eq_true, decide_eq_true_eq] at g3
    refine ⟨m, rfl, g1, g4, g3, h2, fun a ha => walkZ_all hN g3 g4 h1 (ha.at (by omega)).2⟩
def bestK (n : Int) (ps : List Pp) (l : List Tk) (src : Int) : Bwk := bestW l.length (walkZ n.toNat ps l src)
theorem bestK_small (n : Int) (ps : List Pp) (l : List Tk) (src : Int) (h : l.length ≤ 1048577) : (bestK n ps l src).1.length ≤ 1048577 := Nat.le_trans (bestW_len _ _) h
theorem sBestWalk_bad (n : Int) (ps : List Pp) (hps : ps.length ≤ 1048577) (cp : Nat) (l : List Tk) (hl : l.length ≤ 1048577) (c : Nat) (src : Int) (H : Heap) (tp t : Nat) (hP : Sl ppE H tp ps) (hS : Sl tkE H t l) (hb : twB n ps l src = false) :
    AFunC Try.prog 17 [netV n tp ps.length cp, .slice (some ⟨t, 0, none⟩) l.length c, .int .i64 src] H (.tuple #[.slice (some ⟨H.length, 0, none⟩) 0 0, .int .i64 0, .bool false]) (H ++ [some ⟨[], true, 3, 1⟩]) := by
  refine AFunC.of_body Try.func17 (by kernel_rfl) rfl (by kernel_rfl) (by simp [Try.ntmps17]) ?_
  have htp := hP.lt
  have ht := hS.lt
  unfold twB at hb
  simp -dsimp -implicitDefEqProofs (disch := omega) [go_sem, -List.getD_eq_getElem?_getD, ite_yes, htp, ht]
  refine ACall.of (sWalkSteps_A n ps hps cp l hl c src _ tp t hP.app hS.app) ?_
  cases h1 : decide (0 ≤ resW n ps l src)
  · simp -dsimp -implicitDefEqProofs (disch := omega) [go_sem, -List.getD_eq_getElem?_getD, ite_yes, htp, ht]
    refine fin_list [some 1] rfl ?_ (by simp -dsimp -implicitDefEqProofs (disch := omega) [go_sem, -List.getD_eq_getElem?_getD, ite_yes])
    simp -dsimp -implicitDefEqProofs (disch := omega) [go_sem, -List.getD_eq_getElem?_getD, ite_yes]
    exact .inl ⟨rfl, rfl⟩
  rw [h1, Bool.true_and] at hb
  have h5 : ¬ l.length ≤ 5 := of_decide_eq_false hb
  have h6 : (5 : Int) < (l.length : Int) := by omega
  simp -dsimp -implicitDefEqProofs (disch := omega) [go_sem, -List.getD_eq_getElem?_getD, ite_yes, htp, ht, h6]
  refine fin_list [some 1] rfl ?_ (by simp -dsimp -implicitDefEqProofs (disch := omega) [go_sem, -List.getD_eq_getElem?_getD, ite_yes])
  simp -dsimp -implicitDefEqProofs (disch := omega) [go_sem, -List.getD_eq_getElem?_getD, ite_yes]
  exact .inl ⟨rfl, rfl⟩
theorem sBestWalk_good (n : Int) (ps : List Pp) (hps : ps.length ≤ 1048577) (cp : Nat) (l : List Tk) (hl : l.length ≤ 1048577) (c : Nat) (src : Int) (H : Heap) (tp t : Nat) (hP : Sl ppE H tp ps) (hS : Sl tkE H t l) (hg : twB n ps l src = true) :
    AFunC Try.prog 17 [netV n tp ps.length cp, .slice (some ⟨t, 0, none⟩) l.length c, .int .i64 src] H (.tuple #[.slice (some ⟨H.length, 0, none⟩) (bestK n ps l src).1.length 0, .int .i64 (bestK n ps l src).2, .bool true]) (H ++ [some ⟨(bestK n ps l src).1.flatMap nmE, true, 3, 1⟩]) := by
  refine AFunC.of_body Try.func17 (by kernel_rfl) rfl (by kernel_rfl) (by simp [Try.ntmps17]) ?_
  have htp := hP.lt
  have ht := hS.lt
  obtain ⟨hz, m, rfl, ok⟩ := twB_ok hg
  have h6 : ¬ (5 : Int) < (l.length : Int) := by have := ok.o_l; omega
  simp -dsimp -implicitDefEqProofs (disch := omega) [go_sem, -List.getD_eq_getElem?_getD, ite_yes, htp, ht]
  refine ACall.of (sWalkSteps_A m ps hps cp l hl c src _ tp t hP.app hS.app) ?_
  rw [decide_eq_true hz]
  simp -dsimp -implicitDefEqProofs (disch := omega) [go_sem, -List.getD_eq_getElem?_getD, ite_yes, htp, ht, h6]
  refine ACall.via (l22Tour_R m ps l src ok tp cp t c H.length (l.length + 1) [] 0 (H.length + 1) _ (goodW_nil _) (by simp) hP.app hS.app ((Heap.get_len_add _ _ 1).trans rfl) (by omega) (by simp)) ?_
  rintro v G ⟨g, cg, rfl, hgg, hV, hQ, hgb⟩
  rw [show tourW l.length (walkZ m ps l src) (l.length + 1) [] = bestK m ps l src from rfl] at *
  generalize bestK m ps l src = r at *
  simp -dsimp -implicitDefEqProofs (disch := omega) [go_sem, -List.getD_eq_getElem?_getD, ite_yes]
  exact fin_pick3 (fun t ht => (hQ.2 t (by simp; omega)).trans (Heap.get_append_left ht)) hgg hgb (nmE_flat _)
theorem iBestWalk_bad (n : Int) (ps : List Pp) (hps : ps.length ≤ 1048577) (cp : Nat) (l : List Tk) (hl : l.length ≤ 1048577) (c : Nat) (src : Int) (H : Heap) (tp t : Nat) (hP : Sl ppE H tp ps) (hS : Sl tkE H t l) (hb : twB n ps l src = false) :
    AFunC Try.prog 16 [netV n tp ps.length cp, .slice (some ⟨t, 0, none⟩) l.length c, .int .i64 src] H (.tuple #[.slice none 0 0, .int .i64 0, .bool false]) H := by
  refine AFunC.of_body Try.func16 (by kernel_rfl) rfl (by kernel_rfl) (by simp [Try.ntmps16]) ?_
  have htp := hP.lt
  have ht := hS.lt
  unfold twB at hb
  simp -dsimp -implicitDefEqProofs (disch := omega) [go_sem, -List.getD_eq_getElem?_getD, ite_yes, htp, ht]
  refine ACall.of (iWalkSteps_A n ps hps cp l hl c src _ tp t hP.app hS.app) ?_
  cases h1 : decide (0 ≤ resW n ps l src)
  · simp -dsimp -implicitDefEqProofs (disch := omega) [go_sem, -List.getD_eq_getElem?_getD, ite_yes, htp, ht]
    exact fin_flat rfl rfl
  rw [h1, Bool.true_and] at hb
  have h5 : ¬ l.length ≤ 5 := of_decide_eq_false hb
  have h6 : (5 : Int) < (l.length : Int) := by omega
  simp -dsimp -implicitDefEqProofs (disch := omega) [go_sem, -List.getD_eq_getElem?_getD, ite_yes, htp, ht, h6]
  exact fin_flat rfl rfl
theorem iBestWalk_good (n : Int) (ps : List Pp) (hps : ps.length ≤ 1048577) (cp : Nat) (l : List Tk) (hl : l.length ≤ 1048577) (c : Nat) (src : Int) (H : Heap) (tp t : Nat) (hP : Sl ppE H tp ps) (hS : Sl tkE H t l) (hg : twB n ps l src = true) :
    AFunC Try.prog 16 [netV n tp ps.length cp, .slice (some ⟨t, 0, none⟩) l.length c, .int .i64 src] H (.tuple #[.slice (some ⟨H.length, 0, none⟩) (bestK n ps l src).1.length 0, .int .i64 (bestK n ps l src).2, .bool true]) (H ++ [some ⟨(bestK n ps l src).1.flatMap nmE, true, 3, 1⟩]) := by
  refine AFunC.of_body Try.func16 (by kernel_rfl) rfl (by kernel_rfl) (by simp [Try.ntmps16]) ?_
  have htp := hP.lt
  have ht := hS.lt
  obtain ⟨hz, m, rfl, ok⟩ := twB_ok hg
  have h6 : ¬ (5 : Int) < (l.length : Int) := by have := ok.o_l; omega
  simp -dsimp -implicitDefEqProofs (disch := omega) [go_sem, -List.getD_eq_getElem?_getD, ite_yes, htp, ht]
  refine ACall.of (iWalkSteps_A m ps hps cp l hl c src _ tp t hP.app hS.app) ?_
  rw [decide_eq_true hz]
  simp -dsimp -implicitDefEqProofs (disch := omega) [go_sem, -List.getD_eq_getElem?_getD, ite_yes, htp, ht, h6]
  have V := fun K hE hC hu => visitW_R m ps l src ok (H.length + 1) (H.length + 6) H.length (H.length + 2) (H.length + 5) (H.length + 4) tp cp t c 43 H.length (l.length + 1) [] ([], -1) 0 (H.length + 7) K (goodW_nil _) (by simp) hE hC hu (by omega) (by omega) (by omega)
  rw [vis_bestW ok.o_w] at V
  refine ACall.via (V _ ⟨by simp -dsimp -implicitDefEqProofs (disch := omega) [go_sem, -List.getD_eq_getElem?_getD, ite_yes], by simp -dsimp -implicitDefEqProofs (disch := omega) [go_sem, -List.getD_eq_getElem?_getD, ite_yes], by simp -dsimp -implicitDefEqProofs (disch := omega) [go_sem, -List.getD_eq_getElem?_getD, ite_yes], by simp -dsimp -implicitDefEqProofs (disch := omega) [go_sem, -List.getD_eq_getElem?_getD, ite_yes], hS.app, hP.app, by simp, by simp, by simp, by simp, by simp, by simp, by omega, by omega, by omega, by omega, by omega, by omega, by omega⟩ ⟨(Heap.get_len_add _ _ 5).trans rfl, H.length + 3, 0, (Heap.get_len_add _ _ 4).trans rfl, (Heap.get_len_add _ _ 3).trans rfl, by omega, by omega, by omega⟩ ((Heap.get_len_add _ _ 7).trans rfl) (by simp)) ?_
  rintro v G ⟨rfl, hE, hC', hV, hKp⟩
  rw [show bestW l.length (walkZ m ps l src) = bestK m ps l src from rfl] at *
  generalize bestK m ps l src = r at *
  have c5 := hC'.c5
  obtain ⟨g, cb, c6, hgg, _, _, hgb⟩ := hC'.c6
  have l5 := hE.l5
  have l6 := hE.l6
  have q5 : aCells G ⟨H.length + 5, 0, none⟩ 1 = some [.int .i64 r.2] := by rw [aCells_eq, c5]; rfl
  have q6 : aCells G ⟨H.length + 4, 0, none⟩ 1 = some [.slice (some ⟨g, 0, none⟩) r.1.length cb] := by rw [aCells_eq, c6]; rfl
  simp -dsimp -implicitDefEqProofs (disch := omega) [go_sem, -List.getD_eq_getElem?_getD, ite_yes]
  refine ADraw.quiet (by kernel_rfl) (by kernel_rfl) (by kernel_rfl) ?_
  simp -dsimp -implicitDefEqProofs (disch := omega) [go_sem, -List.getD_eq_getElem?_getD, ite_yes, q5, q6, l5, l6]
  exact fin_pick3 (fun t ht => (hKp.2 t (by simp; omega) (by omega) (by omega)).trans (Heap.get_append_left ht)) hgg hgb (nmE_flat _)
theorem lawBestWalk_A (n : Int) (ps : List Pp) (hl0 : ps.length ≤ 9223372036854775807) (c0 : Nat) (l : List Tk) (hl1 : l.length ≤ 9223372036854775807) (c1 : Nat) (src : Int) (H : Heap) (t0 : Nat) (hS0 : Sl ppE H t0 ps) (t1 : Nat) (hS1 : Sl tkE H t1 l) :
    AFunC Try.prog 5 [netV n t0 ps.length c0, .slice (some ⟨t1, 0, none⟩) l.length c1, .int .i64 src] H (.bool true) H := by
  refine AFunC.of_body Try.func5 (by kernel_rfl) rfl (by kernel_rfl) (by simp [Try.ntmps5]) ?_
  have ht0 := hS0.lt
  have ht1 := hS1.lt
  simp -dsimp -implicitDefEqProofs (disch := omega) [go_sem, -List.getD_eq_getElem?_getD, ite_yes, ht0, ht1]
  refine ACall.of (szNet_A n ps.length c0 (by omega) _ (by omega) (by omega) t0 _) ?_
  simp -dsimp -implicitDefEqProofs (disch := omega) [go_sem, -List.getD_eq_getElem?_getD, ite_yes, ht0, ht1]
  refine AIf.of (fun h => ?_) (fun h => ?_)
  · simp -dsimp -implicitDefEqProofs (disch := omega) [go_sem, -List.getD_eq_getElem?_getD, ite_yes]
    first | exact fin_flat0 rfl rfl | exact fin_flat rfl rfl
  have hlen0 : ps.length ≤ 1048577 := by
    have := szPp_len (by simpa using h)
    omega
  simp -dsimp -implicitDefEqProofs (disch := omega) [go_sem, -List.getD_eq_getElem?_getD, ite_yes, ht0, ht1]
  have hz0 : 0 ≤ szPp ps.length 1048576 ∧ szPp ps.length 1048576 ≤ 1048576 := szPp_rng (by simpa using h) (by omega)
  refine ACall.of (szTk_A l.length c1 (by omega) _ (by omega) (by omega) t1 _) ?_
  simp -dsimp -implicitDefEqProofs (disch := omega) [go_sem, -List.getD_eq_getElem?_getD, ite_yes, ht0, ht1]
  refine AIf.of (fun h => ?_) (fun h => ?_)
  · simp -dsimp -implicitDefEqProofs (disch := omega) [go_sem, -List.getD_eq_getElem?_getD, ite_yes]
    first | exact fin_flat0 rfl rfl | exact fin_flat rfl rfl
  have hlen1 : l.length ≤ 1048577 := by
    have := szTk_len (by simpa using h)
    omega
  simp -dsimp -implicitDefEqProofs (disch := omega) [go_sem, -List.getD_eq_getElem?_getD, ite_yes, ht0, ht1]
  rcases Bool.eq_false_or_eq_true (twB n ps l src) with hg | hg
  · have hu := bestK_small n ps l src hlen1
    refine ACall.of (toNet_A n ps hlen0 c0 _ t0 hS0.app) ?_
    simp -dsimp -implicitDefEqProofs (disch := omega) [go_sem, -List.getD_eq_getElem?_getD, ite_yes, ht0, ht1]
    refine ACall.of (toTkS_A l hlen1 c1 _ t1 hS1.app) ?_
    simp -dsimp -implicitDefEqProofs (disch := omega) [go_sem, -List.getD_eq_getElem?_getD, ite_yes, ht0, ht1]
    refine ACall.of (sBestWalk_good n ps hlen0 _ l hlen1 _ src _ _ _ (Sl.nth 1 rfl rfl) (Sl.nth 2 rfl rfl) hg) ?_
    simp -dsimp -implicitDefEqProofs (disch := omega) [go_sem, -List.getD_eq_getElem?_getD, ite_yes, ht0, ht1]
    refine ACall.of (toNet_A n ps hlen0 c0 _ t0 hS0.app) ?_
    simp -dsimp -implicitDefEqProofs (disch := omega) [go_sem, -List.getD_eq_getElem?_getD, ite_yes, ht0, ht1]
    refine ACall.of (toTkS_A l hlen1 c1 _ t1 hS1.app) ?_
    simp -dsimp -implicitDefEqProofs (disch := omega) [go_sem, -List.getD_eq_getElem?_getD, ite_yes, ht0, ht1]
    refine ACall.of (iBestWalk_good n ps hlen0 _ l hlen1 _ src _ _ _ (Sl.nth 4 rfl rfl) (Sl.nth 6 rfl rfl) hg) ?_
    simp -dsimp -implicitDefEqProofs (disch := omega) [go_sem, -List.getD_eq_getElem?_getD, ite_yes, ht0, ht1]
    refine ACall.of (eqNmS_A (bestK n ps l src).1 (bestK n ps l src).1 hu hu _ _ _ _ _ (Sl.nth 7 rfl rfl) (Sl.nth 3 rfl rfl)) ?_
    simp -dsimp -implicitDefEqProofs (disch := omega) [go_sem, -List.getD_eq_getElem?_getD, ite_yes, ht0, ht1]
    refine ADraw.any _ (by kernel_rfl) (SubH.refl) ?_
    refine AAny.two 4 0 1 (by kernel_rfl) (by kernel_rfl) (by kernel_rfl) ?_ ?_
    · simp -dsimp -implicitDefEqProofs (disch := omega) [go_sem, -List.getD_eq_getElem?_getD, ite_yes, ht0, ht1]
      first | refine AAt.of (by first | exact SubH.refl | exact SubH.app | exact SubH.both (by simp [subL])) ?_ | (refine ⟨?_, AAt.of (by first | exact SubH.refl | exact SubH.app | exact SubH.both (by simp [subL])) ?_⟩; · omega)
      refine AAny.one 3 1 (by kernel_rfl) (by kernel_rfl) (by kernel_rfl) ?_
      simp -dsimp -implicitDefEqProofs (disch := omega) [go_sem, -List.getD_eq_getElem?_getD, ite_yes, ht0, ht1]
      first | refine AAt.of (by first | exact SubH.refl | exact SubH.app | exact SubH.both (by simp [subL])) ?_ | (refine ⟨?_, AAt.of (by first | exact SubH.refl | exact SubH.app | exact SubH.both (by simp [subL])) ?_⟩; · omega)
      refine AAny.one 2 2 (by kernel_rfl) (by kernel_rfl) (by kernel_rfl) ?_
      simp -dsimp -implicitDefEqProofs (disch := omega) [go_sem, -List.getD_eq_getElem?_getD, ite_yes, ht0, ht1]
      refine ACall.of (toNet_A n ps hlen0 c0 _ t0 hS0.app) ?_
      simp -dsimp -implicitDefEqProofs (disch := omega) [go_sem, -List.getD_eq_getElem?_getD, ite_yes, ht0, ht1]
      first | refine AAt.of (by first | exact SubH.refl | exact SubH.app | exact SubH.both (by simp [subL])) ?_ | (refine ⟨?_, AAt.of (by first | exact SubH.refl | exact SubH.app | exact SubH.both (by simp [subL])) ?_⟩; · omega)
      refine AAny.one 1 3 (by kernel_rfl) (by kernel_rfl) (by kernel_rfl) ?_
      simp -dsimp -implicitDefEqProofs (disch := omega) [go_sem, -List.getD_eq_getElem?_getD, ite_yes, ht0, ht1]
      refine ACall.of (eqNet_A n n ps ps hlen0 hlen0 _ _ _ _ _ (Sl.nth 4 rfl rfl) (Sl.nth 8 rfl rfl)) ?_
      simp -dsimp -implicitDefEqProofs (disch := omega) [go_sem, -List.getD_eq_getElem?_getD, ite_yes, ht0, ht1]
      first | refine AAt.of (by first | exact SubH.refl | exact SubH.app | exact SubH.both (by simp [subL])) ?_ | (refine ⟨?_, AAt.of (by first | exact SubH.refl | exact SubH.app | exact SubH.both (by simp [subL])) ?_⟩; · omega)
      refine AAny.takes (fuel := 0) (by kernel_rfl) (by kernel_rfl) [4] (by kernel_rfl) (by kernel_rfl) ?_
      simp -dsimp -implicitDefEqProofs (disch := omega) [go_sem, -List.getD_eq_getElem?_getD, ite_yes, ht0, ht1]
      refine AAny.done (by kernel_rfl) ?_
      simp -dsimp -implicitDefEqProofs (disch := omega) [go_sem, -List.getD_eq_getElem?_getD, ite_yes, ht0, ht1]
      refine ACall.of (toTkS_A l hlen1 c1 _ t1 hS1.app) ?_
      simp -dsimp -implicitDefEqProofs (disch := omega) [go_sem, -List.getD_eq_getElem?_getD, ite_yes, ht0, ht1]
      refine ACall.of (eqTkS_A l l hlen1 hlen1 _ _ _ _ _ (Sl.nth 6 rfl rfl) (Sl.nth 9 rfl rfl)) ?_
      simp -dsimp -implicitDefEqProofs (disch := omega) [go_sem, -List.getD_eq_getElem?_getD, ite_yes, ht0, ht1]
      refine ACall.of (markNet_A n ps hlen0 _ _ _ (by omega) (by omega) _ _ ((Heap.get_len_add _ _ 4).trans rfl)) ?_
      simp -dsimp -implicitDefEqProofs (disch := omega) [go_sem, -List.getD_eq_getElem?_getD, ite_yes, ht0, ht1]
      refine ACall.of (markTkS_A l hlen1 _ _ _ (by omega) (by omega) _ _ ((Heap.get_len_add _ _ 6).trans rfl)) ?_
      simp -dsimp -implicitDefEqProofs (disch := omega) [go_sem, -List.getD_eq_getElem?_getD, ite_yes, ht0, ht1]
      refine AIf.of (fun h => absurd (of_decide_eq_true h) (by omega)) (fun _ => ?_)
      simp -dsimp -implicitDefEqProofs (disch := omega) [go_sem, -List.getD_eq_getElem?_getD, ite_yes, ht0, ht1]
      refine ACall.of (eqNmS_A (bestK n ps l src).1 (bestK n ps l src).1 hu hu _ _ _ _ _ (Sl.nth 7 rfl rfl) (Sl.nth 3 rfl rfl)) ?_
      simp -dsimp -implicitDefEqProofs (disch := omega) [go_sem, -List.getD_eq_getElem?_getD, ite_yes, ht0, ht1]
      refine ACall.of (markNmS_A (bestK n ps l src).1 hu _ _ _ (by omega) (by omega) _ _ ((Heap.get_len_add _ _ 7).trans rfl)) ?_
      simp -dsimp -implicitDefEqProofs (disch := omega) [go_sem, -List.getD_eq_getElem?_getD, ite_yes, ht0, ht1]
      refine ACall.of (heldNmS_A _ hu _ _ (by omega) (by omega) _ _ (Sl.nth 7 rfl rfl)) ?_
      simp -dsimp -implicitDefEqProofs (disch := omega) [go_sem, -List.getD_eq_getElem?_getD, ite_yes, ht0, ht1]
      refine AIf.of (fun h => absurd (of_decide_eq_true h) (by omega)) (fun _ => ?_)
      simp -dsimp -implicitDefEqProofs (disch := omega) [go_sem, -List.getD_eq_getElem?_getD, ite_yes, ht0, ht1]
      refine ACall.of (toNet_A n ps hlen0 c0 _ t0 hS0.app) ?_
      simp -dsimp -implicitDefEqProofs (disch := omega) [go_sem, -List.getD_eq_getElem?_getD, ite_yes, ht0, ht1]
      refine ACall.of (toTkS_A l hlen1 c1 _ t1 hS1.app) ?_
      simp -dsimp -implicitDefEqProofs (disch := omega) [go_sem, -List.getD_eq_getElem?_getD, ite_yes, ht0, ht1]
      refine ACall.of (iBestWalk_good n ps hlen0 _ l hlen1 _ src _ _ _ (Sl.nth 10 rfl rfl) (Sl.nth 11 rfl rfl) hg) ?_
      simp -dsimp -implicitDefEqProofs (disch := omega) [go_sem, -List.getD_eq_getElem?_getD, ite_yes, ht0, ht1]
      refine ACall.of (eqNmS_A (bestK n ps l src).1 (bestK n ps l src).1 hu hu _ _ _ _ _ (Sl.nth 12 rfl rfl) (Sl.nth 3 rfl rfl)) ?_
      simp -dsimp -implicitDefEqProofs (disch := omega) [go_sem, -List.getD_eq_getElem?_getD, ite_yes, ht0, ht1]
      refine ACall.of (heldNmS_A _ hu _ _ (by omega) (by omega) _ _ (Sl.nth 7 rfl rfl)) ?_
      simp -dsimp -implicitDefEqProofs (disch := omega) [go_sem, -List.getD_eq_getElem?_getD, ite_yes, ht0, ht1]
      refine AIf.of (fun h => absurd (of_decide_eq_true h) (by omega)) (fun _ => ?_)
      simp -dsimp -implicitDefEqProofs (disch := omega) [go_sem, -List.getD_eq_getElem?_getD, ite_yes, ht0, ht1]
      exact fin_flat rfl rfl
    · simp -dsimp -implicitDefEqProofs (disch := omega) [go_sem, -List.getD_eq_getElem?_getD, ite_yes, ht0, ht1]
      first | refine AAt.of (by first | exact SubH.refl | exact SubH.app | exact SubH.both (by simp [subL])) ?_ | (refine ⟨?_, AAt.of (by first | exact SubH.refl | exact SubH.app | exact SubH.both (by simp [subL])) ?_⟩; · omega)
      refine AAny.two 3 0 2 (by kernel_rfl) (by kernel_rfl) (by kernel_rfl) ?_ ?_
      · simp -dsimp -implicitDefEqProofs (disch := omega) [go_sem, -List.getD_eq_getElem?_getD, ite_yes, ht0, ht1]
        first | refine AAt.of (by first | exact SubH.refl | exact SubH.app | exact SubH.both (by simp [subL])) ?_ | (refine ⟨?_, AAt.of (by first | exact SubH.refl | exact SubH.app | exact SubH.both (by simp [subL])) ?_⟩; · omega)
        refine AAny.one 2 2 (by kernel_rfl) (by kernel_rfl) (by kernel_rfl) ?_
        simp -dsimp -implicitDefEqProofs (disch := omega) [go_sem, -List.getD_eq_getElem?_getD, ite_yes, ht0, ht1]
        refine ACall.of (toNet_A n ps hlen0 c0 _ t0 hS0.app) ?_
        simp -dsimp -implicitDefEqProofs (disch := omega) [go_sem, -List.getD_eq_getElem?_getD, ite_yes, ht0, ht1]
        first | refine AAt.of (by first | exact SubH.refl | exact SubH.app | exact SubH.both (by simp [subL])) ?_ | (refine ⟨?_, AAt.of (by first | exact SubH.refl | exact SubH.app | exact SubH.both (by simp [subL])) ?_⟩; · omega)
        refine AAny.one 1 3 (by kernel_rfl) (by kernel_rfl) (by kernel_rfl) ?_
        simp -dsimp -implicitDefEqProofs (disch := omega) [go_sem, -List.getD_eq_getElem?_getD, ite_yes, ht0, ht1]
        refine ACall.of (eqNet_A n n ps ps hlen0 hlen0 _ _ _ _ _ (Sl.nth 4 rfl rfl) (Sl.nth 8 rfl rfl)) ?_
        simp -dsimp -implicitDefEqProofs (disch := omega) [go_sem, -List.getD_eq_getElem?_getD, ite_yes, ht0, ht1]
        first | refine AAt.of (by first | exact SubH.refl | exact SubH.app | exact SubH.both (by simp [subL])) ?_ | (refine ⟨?_, AAt.of (by first | exact SubH.refl | exact SubH.app | exact SubH.both (by simp [subL])) ?_⟩; · omega)
        refine AAny.takes (fuel := 0) (by kernel_rfl) (by kernel_rfl) [4] (by kernel_rfl) (by kernel_rfl) ?_
        simp -dsimp -implicitDefEqProofs (disch := omega) [go_sem, -List.getD_eq_getElem?_getD, ite_yes, ht0, ht1]
        refine AAny.done (by kernel_rfl) ?_
        simp -dsimp -implicitDefEqProofs (disch := omega) [go_sem, -List.getD_eq_getElem?_getD, ite_yes, ht0, ht1]
        refine ACall.of (toTkS_A l hlen1 c1 _ t1 hS1.app) ?_
        simp -dsimp -implicitDefEqProofs (disch := omega) [go_sem, -List.getD_eq_getElem?_getD, ite_yes, ht0, ht1]
        refine ACall.of (eqTkS_A l l hlen1 hlen1 _ _ _ _ _ (Sl.nth 6 rfl rfl) (Sl.nth 9 rfl rfl)) ?_
        simp -dsimp -implicitDefEqProofs (disch := omega) [go_sem, -List.getD_eq_getElem?_getD, ite_yes, ht0, ht1]
        refine ACall.of (markNet_A n ps hlen0 _ _ _ (by omega) (by omega) _ _ ((Heap.get_len_add _ _ 4).trans rfl)) ?_
        simp -dsimp -implicitDefEqProofs (disch := omega) [go_sem, -List.getD_eq_getElem?_getD, ite_yes, ht0, ht1]
        refine ACall.of (markTkS_A l hlen1 _ _ _ (by omega) (by omega) _ _ ((Heap.get_len_add _ _ 6).trans rfl)) ?_
        simp -dsimp -implicitDefEqProofs (disch := omega) [go_sem, -List.getD_eq_getElem?_getD, ite_yes, ht0, ht1]
        refine AIf.of (fun h => absurd (of_decide_eq_true h) (by omega)) (fun _ => ?_)
        simp -dsimp -implicitDefEqProofs (disch := omega) [go_sem, -List.getD_eq_getElem?_getD, ite_yes, ht0, ht1]
        refine ACall.of (eqNmS_A (bestK n ps l src).1 (bestK n ps l src).1 hu hu _ _ _ _ _ (Sl.nth 7 rfl rfl) (Sl.nth 3 rfl rfl)) ?_
        simp -dsimp -implicitDefEqProofs (disch := omega) [go_sem, -List.getD_eq_getElem?_getD, ite_yes, ht0, ht1]
        refine ACall.of (markNmS_A (bestK n ps l src).1 hu _ _ _ (by omega) (by omega) _ _ ((Heap.get_len_add _ _ 7).trans rfl)) ?_
        simp -dsimp -implicitDefEqProofs (disch := omega) [go_sem, -List.getD_eq_getElem?_getD, ite_yes, ht0, ht1]
        refine ACall.of (heldNmS_A _ hu _ _ (by omega) (by omega) _ _ (Sl.nth 7 rfl rfl)) ?_
        simp -dsimp -implicitDefEqProofs (disch := omega) [go_sem, -List.getD_eq_getElem?_getD, ite_yes, ht0, ht1]
        refine AIf.of (fun h => absurd (of_decide_eq_true h) (by omega)) (fun _ => ?_)
        simp -dsimp -implicitDefEqProofs (disch := omega) [go_sem, -List.getD_eq_getElem?_getD, ite_yes, ht0, ht1]
        refine ACall.of (toNet_A n ps hlen0 c0 _ t0 hS0.app) ?_
        simp -dsimp -implicitDefEqProofs (disch := omega) [go_sem, -List.getD_eq_getElem?_getD, ite_yes, ht0, ht1]
        refine ACall.of (toTkS_A l hlen1 c1 _ t1 hS1.app) ?_
        simp -dsimp -implicitDefEqProofs (disch := omega) [go_sem, -List.getD_eq_getElem?_getD, ite_yes, ht0, ht1]
        refine ACall.of (iBestWalk_good n ps hlen0 _ l hlen1 _ src _ _ _ (Sl.nth 10 rfl rfl) (Sl.nth 11 rfl rfl) hg) ?_
        simp -dsimp -implicitDefEqProofs (disch := omega) [go_sem, -List.getD_eq_getElem?_getD, ite_yes, ht0, ht1]
        refine ACall.of (eqNmS_A (bestK n ps l src).1 (bestK n ps l src).1 hu hu _ _ _ _ _ (Sl.nth 12 rfl rfl) (Sl.nth 3 rfl rfl)) ?_
        simp -dsimp -implicitDefEqProofs (disch := omega) [go_sem, -List.getD_eq_getElem?_getD, ite_yes, ht0, ht1]
        refine ACall.of (heldNmS_A _ hu _ _ (by omega) (by omega) _ _ (Sl.nth 7 rfl rfl)) ?_
        simp -dsimp -implicitDefEqProofs (disch := omega) [go_sem, -List.getD_eq_getElem?_getD, ite_yes, ht0, ht1]
        refine AIf.of (fun h => absurd (of_decide_eq_true h) (by omega)) (fun _ => ?_)
        simp -dsimp -implicitDefEqProofs (disch := omega) [go_sem, -List.getD_eq_getElem?_getD, ite_yes, ht0, ht1]
        exact fin_flat rfl rfl
      · simp -dsimp -implicitDefEqProofs (disch := omega) [go_sem, -List.getD_eq_getElem?_getD, ite_yes, ht0, ht1]
        refine ACall.of (toNet_A n ps hlen0 c0 _ t0 hS0.app) ?_
        simp -dsimp -implicitDefEqProofs (disch := omega) [go_sem, -List.getD_eq_getElem?_getD, ite_yes, ht0, ht1]
        first | refine AAt.of (by first | exact SubH.refl | exact SubH.app | exact SubH.both (by simp [subL])) ?_ | (refine ⟨?_, AAt.of (by first | exact SubH.refl | exact SubH.app | exact SubH.both (by simp [subL])) ?_⟩; · omega)
        refine AAny.one 2 0 (by kernel_rfl) (by kernel_rfl) (by kernel_rfl) ?_
        simp -dsimp -implicitDefEqProofs (disch := omega) [go_sem, -List.getD_eq_getElem?_getD, ite_yes, ht0, ht1]
        first | refine AAt.of (by first | exact SubH.refl | exact SubH.app | exact SubH.both (by simp [subL])) ?_ | (refine ⟨?_, AAt.of (by first | exact SubH.refl | exact SubH.app | exact SubH.both (by simp [subL])) ?_⟩; · omega)
        refine AAny.one 1 3 (by kernel_rfl) (by kernel_rfl) (by kernel_rfl) ?_
        simp -dsimp -implicitDefEqProofs (disch := omega) [go_sem, -List.getD_eq_getElem?_getD, ite_yes, ht0, ht1]
        refine ACall.of (eqNet_A n n ps ps hlen0 hlen0 _ _ _ _ _ (Sl.nth 4 rfl rfl) (Sl.nth 8 rfl rfl)) ?_
        simp -dsimp -implicitDefEqProofs (disch := omega) [go_sem, -List.getD_eq_getElem?_getD, ite_yes, ht0, ht1]
        first | refine AAt.of (by first | exact SubH.refl | exact SubH.app | exact SubH.both (by simp [subL])) ?_ | (refine ⟨?_, AAt.of (by first | exact SubH.refl | exact SubH.app | exact SubH.both (by simp [subL])) ?_⟩; · omega)
        refine AAny.takes (fuel := 0) (by kernel_rfl) (by kernel_rfl) [4] (by kernel_rfl) (by kernel_rfl) ?_
        simp -dsimp -implicitDefEqProofs (disch := omega) [go_sem, -List.getD_eq_getElem?_getD, ite_yes, ht0, ht1]
        refine AAny.done (by kernel_rfl) ?_
        simp -dsimp -implicitDefEqProofs (disch := omega) [go_sem, -List.getD_eq_getElem?_getD, ite_yes, ht0, ht1]
        refine ACall.of (toTkS_A l hlen1 c1 _ t1 hS1.app) ?_
        simp -dsimp -implicitDefEqProofs (disch := omega) [go_sem, -List.getD_eq_getElem?_getD, ite_yes, ht0, ht1]
        refine ACall.of (eqTkS_A l l hlen1 hlen1 _ _ _ _ _ (Sl.nth 6 rfl rfl) (Sl.nth 9 rfl rfl)) ?_
        simp -dsimp -implicitDefEqProofs (disch := omega) [go_sem, -List.getD_eq_getElem?_getD, ite_yes, ht0, ht1]
        refine ACall.of (markNet_A n ps hlen0 _ _ _ (by omega) (by omega) _ _ ((Heap.get_len_add _ _ 4).trans rfl)) ?_
        simp -dsimp -implicitDefEqProofs (disch := omega) [go_sem, -List.getD_eq_getElem?_getD, ite_yes, ht0, ht1]
        refine ACall.of (markTkS_A l hlen1 _ _ _ (by omega) (by omega) _ _ ((Heap.get_len_add _ _ 6).trans rfl)) ?_
        simp -dsimp -implicitDefEqProofs (disch := omega) [go_sem, -List.getD_eq_getElem?_getD, ite_yes, ht0, ht1]
        refine AIf.of (fun h => absurd (of_decide_eq_true h) (by omega)) (fun _ => ?_)
        simp -dsimp -implicitDefEqProofs (disch := omega) [go_sem, -List.getD_eq_getElem?_getD, ite_yes, ht0, ht1]
        refine ACall.of (eqNmS_A (bestK n ps l src).1 (bestK n ps l src).1 hu hu _ _ _ _ _ (Sl.nth 7 rfl rfl) (Sl.nth 3 rfl rfl)) ?_
        simp -dsimp -implicitDefEqProofs (disch := omega) [go_sem, -List.getD_eq_getElem?_getD, ite_yes, ht0, ht1]
        refine ACall.of (markNmS_A (bestK n ps l src).1 hu _ _ _ (by omega) (by omega) _ _ ((Heap.get_len_add _ _ 7).trans rfl)) ?_
        simp -dsimp -implicitDefEqProofs (disch := omega) [go_sem, -List.getD_eq_getElem?_getD, ite_yes, ht0, ht1]
        refine ACall.of (heldNmS_A _ hu _ _ (by omega) (by omega) _ _ (Sl.nth 7 rfl rfl)) ?_
        simp -dsimp -implicitDefEqProofs (disch := omega) [go_sem, -List.getD_eq_getElem?_getD, ite_yes, ht0, ht1]
        refine AIf.of (fun h => absurd (of_decide_eq_true h) (by omega)) (fun _ => ?_)
        simp -dsimp -implicitDefEqProofs (disch := omega) [go_sem, -List.getD_eq_getElem?_getD, ite_yes, ht0, ht1]
        refine ACall.of (toNet_A n ps hlen0 c0 _ t0 hS0.app) ?_
        simp -dsimp -implicitDefEqProofs (disch := omega) [go_sem, -List.getD_eq_getElem?_getD, ite_yes, ht0, ht1]
        refine ACall.of (toTkS_A l hlen1 c1 _ t1 hS1.app) ?_
        simp -dsimp -implicitDefEqProofs (disch := omega) [go_sem, -List.getD_eq_getElem?_getD, ite_yes, ht0, ht1]
        refine ACall.of (iBestWalk_good n ps hlen0 _ l hlen1 _ src _ _ _ (Sl.nth 10 rfl rfl) (Sl.nth 11 rfl rfl) hg) ?_
        simp -dsimp -implicitDefEqProofs (disch := omega) [go_sem, -List.getD_eq_getElem?_getD, ite_yes, ht0, ht1]
        refine ACall.of (eqNmS_A (bestK n ps l src).1 (bestK n ps l src).1 hu hu _ _ _ _ _ (Sl.nth 12 rfl rfl) (Sl.nth 3 rfl rfl)) ?_
        simp -dsimp -implicitDefEqProofs (disch := omega) [go_sem, -List.getD_eq_getElem?_getD, ite_yes, ht0, ht1]
        refine ACall.of (heldNmS_A _ hu _ _ (by omega) (by omega) _ _ (Sl.nth 7 rfl rfl)) ?_
        simp -dsimp -implicitDefEqProofs (disch := omega) [go_sem, -List.getD_eq_getElem?_getD, ite_yes, ht0, ht1]
        refine AIf.of (fun h => absurd (of_decide_eq_true h) (by omega)) (fun _ => ?_)
        simp -dsimp -implicitDefEqProofs (disch := omega) [go_sem, -List.getD_eq_getElem?_getD, ite_yes, ht0, ht1]
        exact fin_flat rfl rfl
  · refine ACall.of (toNet_A n ps hlen0 c0 _ t0 hS0.app) ?_
    simp -dsimp -implicitDefEqProofs (disch := omega) [go_sem, -List.getD_eq_getElem?_getD, ite_yes, ht0, ht1]
    refine ACall.of (toTkS_A l hlen1 c1 _ t1 hS1.app) ?_
    simp -dsimp -implicitDefEqProofs (disch := omega) [go_sem, -List.getD_eq_getElem?_getD, ite_yes, ht0, ht1]
    refine ACall.of (sBestWalk_bad n ps hlen0 _ l hlen1 _ src _ _ _ (Sl.nth 1 rfl rfl) (Sl.nth 2 rfl rfl) hg) ?_
    simp -dsimp -implicitDefEqProofs (disch := omega) [go_sem, -List.getD_eq_getElem?_getD, ite_yes, ht0, ht1]
    refine ACall.of (toNet_A n ps hlen0 c0 _ t0 hS0.app) ?_
    simp -dsimp -implicitDefEqProofs (disch := omega) [go_sem, -List.getD_eq_getElem?_getD, ite_yes, ht0, ht1]
    refine ACall.of (toTkS_A l hlen1 c1 _ t1 hS1.app) ?_
    simp -dsimp -implicitDefEqProofs (disch := omega) [go_sem, -List.getD_eq_getElem?_getD, ite_yes, ht0, ht1]
    refine ACall.of (iBestWalk_bad n ps hlen0 _ l hlen1 _ src _ _ _ (Sl.nth 4 rfl rfl) (Sl.nth 6 rfl rfl) hg) ?_
    simp -dsimp -implicitDefEqProofs (disch := omega) [go_sem, -List.getD_eq_getElem?_getD, ite_yes, ht0, ht1]
    refine ACall.of (eqNmS_nil _ _ _) ?_
    simp -dsimp -implicitDefEqProofs (disch := omega) [go_sem, -List.getD_eq_getElem?_getD, ite_yes, ht0, ht1]
    refine ADraw.any _ (by kernel_rfl) (SubH.refl) ?_
    refine AAny.two 4 0 1 (by kernel_rfl) (by kernel_rfl) (by kernel_rfl) ?_ ?_
    · simp -dsimp -implicitDefEqProofs (disch := omega) [go_sem, -List.getD_eq_getElem?_getD, ite_yes, ht0, ht1]
      first | refine AAt.of (by first | exact SubH.refl | exact SubH.app | exact SubH.both (by simp [subL])) ?_ | (refine ⟨?_, AAt.of (by first | exact SubH.refl | exact SubH.app | exact SubH.both (by simp [subL])) ?_⟩; · omega)
      refine AAny.one 3 1 (by kernel_rfl) (by kernel_rfl) (by kernel_rfl) ?_
      simp -dsimp -implicitDefEqProofs (disch := omega) [go_sem, -List.getD_eq_getElem?_getD, ite_yes, ht0, ht1]
      first | refine AAt.of (by first | exact SubH.refl | exact SubH.app | exact SubH.both (by simp [subL])) ?_ | (refine ⟨?_, AAt.of (by first | exact SubH.refl | exact SubH.app | exact SubH.both (by simp [subL])) ?_⟩; · omega)
      refine AAny.one 2 2 (by kernel_rfl) (by kernel_rfl) (by kernel_rfl) ?_
      simp -dsimp -implicitDefEqProofs (disch := omega) [go_sem, -List.getD_eq_getElem?_getD, ite_yes, ht0, ht1]
      refine ACall.of (toNet_A n ps hlen0 c0 _ t0 hS0.app) ?_
      simp -dsimp -implicitDefEqProofs (disch := omega) [go_sem, -List.getD_eq_getElem?_getD, ite_yes, ht0, ht1]
      first | refine AAt.of (by first | exact SubH.refl | exact SubH.app | exact SubH.both (by simp [subL])) ?_ | (refine ⟨?_, AAt.of (by first | exact SubH.refl | exact SubH.app | exact SubH.both (by simp [subL])) ?_⟩; · omega)
      refine AAny.one 1 3 (by kernel_rfl) (by kernel_rfl) (by kernel_rfl) ?_
      simp -dsimp -implicitDefEqProofs (disch := omega) [go_sem, -List.getD_eq_getElem?_getD, ite_yes, ht0, ht1]
      refine ACall.of (eqNet_A n n ps ps hlen0 hlen0 _ _ _ _ _ (Sl.nth 4 rfl rfl) (Sl.nth 7 rfl rfl)) ?_
      simp -dsimp -implicitDefEqProofs (disch := omega) [go_sem, -List.getD_eq_getElem?_getD, ite_yes, ht0, ht1]
      first | refine AAt.of (by first | exact SubH.refl | exact SubH.app | exact SubH.both (by simp [subL])) ?_ | (refine ⟨?_, AAt.of (by first | exact SubH.refl | exact SubH.app | exact SubH.both (by simp [subL])) ?_⟩; · omega)
      refine AAny.takes (fuel := 0) (by kernel_rfl) (by kernel_rfl) [4] (by kernel_rfl) (by kernel_rfl) ?_
      simp -dsimp -implicitDefEqProofs (disch := omega) [go_sem, -List.getD_eq_getElem?_getD, ite_yes, ht0, ht1]
      refine AAny.done (by kernel_rfl) ?_
      simp -dsimp -implicitDefEqProofs (disch := omega) [go_sem, -List.getD_eq_getElem?_getD, ite_yes, ht0, ht1]
      refine ACall.of (toTkS_A l hlen1 c1 _ t1 hS1.app) ?_
      simp -dsimp -implicitDefEqProofs (disch := omega) [go_sem, -List.getD_eq_getElem?_getD, ite_yes, ht0, ht1]
      refine ACall.of (eqTkS_A l l hlen1 hlen1 _ _ _ _ _ (Sl.nth 6 rfl rfl) (Sl.nth 8 rfl rfl)) ?_
      simp -dsimp -implicitDefEqProofs (disch := omega) [go_sem, -List.getD_eq_getElem?_getD, ite_yes, ht0, ht1]
      refine ACall.of (markNet_A n ps hlen0 _ _ _ (by omega) (by omega) _ _ ((Heap.get_len_add _ _ 4).trans rfl)) ?_
      simp -dsimp -implicitDefEqProofs (disch := omega) [go_sem, -List.getD_eq_getElem?_getD, ite_yes, ht0, ht1]
      refine ACall.of (markTkS_A l hlen1 _ _ _ (by omega) (by omega) _ _ ((Heap.get_len_add _ _ 6).trans rfl)) ?_
      simp -dsimp -implicitDefEqProofs (disch := omega) [go_sem, -List.getD_eq_getElem?_getD, ite_yes, ht0, ht1]
      refine AIf.of (fun h => absurd (of_decide_eq_true h) (by omega)) (fun _ => ?_)
      simp -dsimp -implicitDefEqProofs (disch := omega) [go_sem, -List.getD_eq_getElem?_getD, ite_yes, ht0, ht1]
      refine ACall.of (eqNmS_nil _ _ _) ?_
      simp -dsimp -implicitDefEqProofs (disch := omega) [go_sem, -List.getD_eq_getElem?_getD, ite_yes, ht0, ht1]
      refine ACall.of (markNmS_nil _ _) ?_
      simp -dsimp -implicitDefEqProofs (disch := omega) [go_sem, -List.getD_eq_getElem?_getD, ite_yes, ht0, ht1]
      refine ACall.of (heldNmS_nil _ _) ?_
      simp -dsimp -implicitDefEqProofs (disch := omega) [go_sem, -List.getD_eq_getElem?_getD, ite_yes, ht0, ht1]
      refine ACall.of (toNet_A n ps hlen0 c0 _ t0 hS0.app) ?_
      simp -dsimp -implicitDefEqProofs (disch := omega) [go_sem, -List.getD_eq_getElem?_getD, ite_yes, ht0, ht1]
      refine ACall.of (toTkS_A l hlen1 c1 _ t1 hS1.app) ?_
      simp -dsimp -implicitDefEqProofs (disch := omega) [go_sem, -List.getD_eq_getElem?_getD, ite_yes, ht0, ht1]
      refine ACall.of (iBestWalk_bad n ps hlen0 _ l hlen1 _ src _ _ _ (Sl.nth 9 rfl rfl) (Sl.nth 10 rfl rfl) hg) ?_
      simp -dsimp -implicitDefEqProofs (disch := omega) [go_sem, -List.getD_eq_getElem?_getD, ite_yes, ht0, ht1]
      refine ACall.of (eqNmS_nil _ _ _) ?_
      simp -dsimp -implicitDefEqProofs (disch := omega) [go_sem, -List.getD_eq_getElem?_getD, ite_yes, ht0, ht1]
      refine ACall.of (heldNmS_nil _ _) ?_
      simp -dsimp -implicitDefEqProofs (disch := omega) [go_sem, -List.getD_eq_getElem?_getD, ite_yes, ht0, ht1]
      exact fin_flat rfl rfl
    · simp -dsimp -implicitDefEqProofs (disch := omega) [go_sem, -List.getD_eq_getElem?_getD, ite_yes, ht0, ht1]
      first | refine AAt.of (by first | exact SubH.refl | exact SubH.app | exact SubH.both (by simp [subL])) ?_ | (refine ⟨?_, AAt.of (by first | exact SubH.refl | exact SubH.app | exact SubH.both (by simp [subL])) ?_⟩; · omega)
      refine AAny.two 3 0 2 (by kernel_rfl) (by kernel_rfl) (by kernel_rfl) ?_ ?_
      · simp -dsimp -implicitDefEqProofs (disch := omega) [go_sem, -List.getD_eq_getElem?_getD, ite_yes, ht0, ht1]
        first | refine AAt.of (by first | exact SubH.refl | exact SubH.app | exact SubH.both (by simp [subL])) ?_ | (refine ⟨?_, AAt.of (by first | exact SubH.refl | exact SubH.app | exact SubH.both (by simp [subL])) ?_⟩; · omega)
        refine AAny.one 2 2 (by kernel_rfl) (by kernel_rfl) (by kernel_rfl) ?_
        simp -dsimp -implicitDefEqProofs (disch := omega) [go_sem, -List.getD_eq_getElem?_getD, ite_yes, ht0, ht1]
        refine ACall.of (toNet_A n ps hlen0 c0 _ t0 hS0.app) ?_
        simp -dsimp -implicitDefEqProofs (disch := omega) [go_sem, -List.getD_eq_getElem?_getD, ite_yes, ht0, ht1]
        first | refine AAt.of (by first | exact SubH.refl | exact SubH.app | exact SubH.both (by simp [subL])) ?_ | (refine ⟨?_, AAt.of (by first | exact SubH.refl | exact SubH.app | exact SubH.both (by simp [subL])) ?_⟩; · omega)
        refine AAny.one 1 3 (by kernel_rfl) (by kernel_rfl) (by kernel_rfl) ?_
        simp -dsimp -implicitDefEqProofs (disch := omega) [go_sem, -List.getD_eq_getElem?_getD, ite_yes, ht0, ht1]
        refine ACall.of (eqNet_A n n ps ps hlen0 hlen0 _ _ _ _ _ (Sl.nth 4 rfl rfl) (Sl.nth 7 rfl rfl)) ?_
        simp -dsimp -implicitDefEqProofs (disch := omega) [go_sem, -List.getD_eq_getElem?_getD, ite_yes, ht0, ht1]
        first | refine AAt.of (by first | exact SubH.refl | exact SubH.app | exact SubH.both (by simp [subL])) ?_ | (refine ⟨?_, AAt.of (by first | exact SubH.refl | exact SubH.app | exact SubH.both (by simp [subL])) ?_⟩; · omega)
        refine AAny.takes (fuel := 0) (by kernel_rfl) (by kernel_rfl) [4] (by kernel_rfl) (by kernel_rfl) ?_
        simp -dsimp -implicitDefEqProofs (disch := omega) [go_sem, -List.getD_eq_getElem?_getD, ite_yes, ht0, ht1]
        refine AAny.done (by kernel_rfl) ?_
        simp -dsimp -implicitDefEqProofs (disch := omega) [go_sem, -List.getD_eq_getElem?_getD, ite_yes, ht0, ht1]
        refine ACall.of (toTkS_A l hlen1 c1 _ t1 hS1.app) ?_
        simp -dsimp -implicitDefEqProofs (disch := omega) [go_sem, -List.getD_eq_getElem?_getD, ite_yes, ht0, ht1]
        refine ACall.of (eqTkS_A l l hlen1 hlen1 _ _ _ _ _ (Sl.nth 6 rfl rfl) (Sl.nth 8 rfl rfl)) ?_
        simp -dsimp -implicitDefEqProofs (disch := omega) [go_sem, -List.getD_eq_getElem?_getD, ite_yes, ht0, ht1]
        refine ACall.of (markNet_A n ps hlen0 _ _ _ (by omega) (by omega) _ _ ((Heap.get_len_add _ _ 4).trans rfl)) ?_
        simp -dsimp -implicitDefEqProofs (disch := omega) [go_sem, -List.getD_eq_getElem?_getD, ite_yes, ht0, ht1]
        refine ACall.of (markTkS_A l hlen1 _ _ _ (by omega) (by omega) _ _ ((Heap.get_len_add _ _ 6).trans rfl)) ?_
        simp -dsimp -implicitDefEqProofs (disch := omega) [go_sem, -List.getD_eq_getElem?_getD, ite_yes, ht0, ht1]
        refine AIf.of (fun h => absurd (of_decide_eq_true h) (by omega)) (fun _ => ?_)
        simp -dsimp -implicitDefEqProofs (disch := omega) [go_sem, -List.getD_eq_getElem?_getD, ite_yes, ht0, ht1]
        refine ACall.of (eqNmS_nil _ _ _) ?_
        simp -dsimp -implicitDefEqProofs (disch := omega) [go_sem, -List.getD_eq_getElem?_getD, ite_yes, ht0, ht1]
        refine ACall.of (markNmS_nil _ _) ?_
        simp -dsimp -implicitDefEqProofs (disch := omega) [go_sem, -List.getD_eq_getElem?_getD, ite_yes, ht0, ht1]
        refine ACall.of (heldNmS_nil _ _) ?_
        simp -dsimp -implicitDefEqProofs (disch := omega) [go_sem, -List.getD_eq_getElem?_getD, ite_yes, ht0, ht1]
        refine ACall.of (toNet_A n ps hlen0 c0 _ t0 hS0.app) ?_
        simp -dsimp -implicitDefEqProofs (disch := omega) [go_sem, -List.getD_eq_getElem?_getD, ite_yes, ht0, ht1]
        refine ACall.of (toTkS_A l hlen1 c1 _ t1 hS1.app) ?_
        simp -dsimp -implicitDefEqProofs (disch := omega) [go_sem, -List.getD_eq_getElem?_getD, ite_yes, ht0, ht1]
        refine ACall.of (iBestWalk_bad n ps hlen0 _ l hlen1 _ src _ _ _ (Sl.nth 9 rfl rfl) (Sl.nth 10 rfl rfl) hg) ?_
        simp -dsimp -implicitDefEqProofs (disch := omega) [go_sem, -List.getD_eq_getElem?_getD, ite_yes, ht0, ht1]
        refine ACall.of (eqNmS_nil _ _ _) ?_
        simp -dsimp -implicitDefEqProofs (disch := omega) [go_sem, -List.getD_eq_getElem?_getD, ite_yes, ht0, ht1]
        refine ACall.of (heldNmS_nil _ _) ?_
        simp -dsimp -implicitDefEqProofs (disch := omega) [go_sem, -List.getD_eq_getElem?_getD, ite_yes, ht0, ht1]
        exact fin_flat rfl rfl
      · simp -dsimp -implicitDefEqProofs (disch := omega) [go_sem, -List.getD_eq_getElem?_getD, ite_yes, ht0, ht1]
        refine ACall.of (toNet_A n ps hlen0 c0 _ t0 hS0.app) ?_
        simp -dsimp -implicitDefEqProofs (disch := omega) [go_sem, -List.getD_eq_getElem?_getD, ite_yes, ht0, ht1]
        first | refine AAt.of (by first | exact SubH.refl | exact SubH.app | exact SubH.both (by simp [subL])) ?_ | (refine ⟨?_, AAt.of (by first | exact SubH.refl | exact SubH.app | exact SubH.both (by simp [subL])) ?_⟩; · omega)
        refine AAny.one 2 0 (by kernel_rfl) (by kernel_rfl) (by kernel_rfl) ?_
        simp -dsimp -implicitDefEqProofs (disch := omega) [go_sem, -List.getD_eq_getElem?_getD, ite_yes, ht0, ht1]
        first | refine AAt.of (by first | exact SubH.refl | exact SubH.app | exact SubH.both (by simp [subL])) ?_ | (refine ⟨?_, AAt.of (by first | exact SubH.refl | exact SubH.app | exact SubH.both (by simp [subL])) ?_⟩; · omega)
        refine AAny.one 1 3 (by kernel_rfl) (by kernel_rfl) (by kernel_rfl) ?_
        simp -dsimp -implicitDefEqProofs (disch := omega) [go_sem, -List.getD_eq_getElem?_getD, ite_yes, ht0, ht1]
        refine ACall.of (eqNet_A n n ps ps hlen0 hlen0 _ _ _ _ _ (Sl.nth 4 rfl rfl) (Sl.nth 7 rfl rfl)) ?_
        simp -dsimp -implicitDefEqProofs (disch := omega) [go_sem, -List.getD_eq_getElem?_getD, ite_yes, ht0, ht1]
        first | refine AAt.of (by first | exact SubH.refl | exact SubH.app | exact SubH.both (by simp [subL])) ?_ | (refine ⟨?_, AAt.of (by first | exact SubH.refl | exact SubH.app | exact SubH.both (by simp [subL])) ?_⟩; · omega)
        refine AAny.takes (fuel := 0) (by kernel_rfl) (by kernel_rfl) [4] (by kernel_rfl) (by kernel_rfl) ?_
        simp -dsimp -implicitDefEqProofs (disch := omega) [go_sem, -List.getD_eq_getElem?_getD, ite_yes, ht0, ht1]
        refine AAny.done (by kernel_rfl) ?_
        simp -dsimp -implicitDefEqProofs (disch := omega) [go_sem, -List.getD_eq_getElem?_getD, ite_yes, ht0, ht1]
        refine ACall.of (toTkS_A l hlen1 c1 _ t1 hS1.app) ?_
        simp -dsimp -implicitDefEqProofs (disch := omega) [go_sem, -List.getD_eq_getElem?_getD, ite_yes, ht0, ht1]
        refine ACall.of (eqTkS_A l l hlen1 hlen1 _ _ _ _ _ (Sl.nth 6 rfl rfl) (Sl.nth 8 rfl rfl)) ?_
        simp -dsimp -implicitDefEqProofs (disch := omega) [go_sem, -List.getD_eq_getElem?_getD, ite_yes, ht0, ht1]
        refine ACall.of (markNet_A n ps hlen0 _ _ _ (by omega) (by omega) _ _ ((Heap.get_len_add _ _ 4).trans rfl)) ?_
        simp -dsimp -implicitDefEqProofs (disch := omega) [go_sem, -List.getD_eq_getElem?_getD, ite_yes, ht0, ht1]
        refine ACall.of (markTkS_A l hlen1 _ _ _ (by omega) (by omega) _ _ ((Heap.get_len_add _ _ 6).trans rfl)) ?_
        simp -dsimp -implicitDefEqProofs (disch := omega) [go_sem, -List.getD_eq_getElem?_getD, ite_yes, ht0, ht1]
        refine AIf.of (fun h => absurd (of_decide_eq_true h) (by omega)) (fun _ => ?_)
        simp -dsimp -implicitDefEqProofs (disch := omega) [go_sem, -List.getD_eq_getElem?_getD, ite_yes, ht0, ht1]
        refine ACall.of (eqNmS_nil _ _ _) ?_
        simp -dsimp -implicitDefEqProofs (disch := omega) [go_sem, -List.getD_eq_getElem?_getD, ite_yes, ht0, ht1]
        refine ACall.of (markNmS_nil _ _) ?_
        simp -dsimp -implicitDefEqProofs (disch := omega) [go_sem, -List.getD_eq_getElem?_getD, ite_yes, ht0, ht1]
        refine ACall.of (heldNmS_nil _ _) ?_
        simp -dsimp -implicitDefEqProofs (disch := omega) [go_sem, -List.getD_eq_getElem?_getD, ite_yes, ht0, ht1]
        refine ACall.of (toNet_A n ps hlen0 c0 _ t0 hS0.app) ?_
        simp -dsimp -implicitDefEqProofs (disch := omega) [go_sem, -List.getD_eq_getElem?_getD, ite_yes, ht0, ht1]
        refine ACall.of (toTkS_A l hlen1 c1 _ t1 hS1.app) ?_
        simp -dsimp -implicitDefEqProofs (disch := omega) [go_sem, -List.getD_eq_getElem?_getD, ite_yes, ht0, ht1]
        refine ACall.of (iBestWalk_bad n ps hlen0 _ l hlen1 _ src _ _ _ (Sl.nth 9 rfl rfl) (Sl.nth 10 rfl rfl) hg) ?_
        simp -dsimp -implicitDefEqProofs (disch := omega) [go_sem, -List.getD_eq_getElem?_getD, ite_yes, ht0, ht1]
        refine ACall.of (eqNmS_nil _ _ _) ?_
        simp -dsimp -implicitDefEqProofs (disch := omega) [go_sem, -List.getD_eq_getElem?_getD, ite_yes, ht0, ht1]
        refine ACall.of (heldNmS_nil _ _) ?_
        simp -dsimp -implicitDefEqProofs (disch := omega) [go_sem, -List.getD_eq_getElem?_getD, ite_yes, ht0, ht1]
        exact fin_flat rfl rfl
end Go.Proofs.Ytkjgmppcgcimgaa
