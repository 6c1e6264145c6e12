/- The best order: the reference's recursion, the walk. -/
import Derived.Test.YtaehphcaiabdmaaVisit
namespace Go.Proofs.Ytaehphcaiabdmaa
open Go.Am
set_option linter.unusedVariables false
set_option linter.unusedSimpArgs false
set_option maxRecDepth 100000
set_option maxHeartbeats 8000000

theorem sg_id {m t : Nat} (h : t < m) : sg m [] t = some t := by simp [sg, h]
theorem bestTo_rng {rec : List Int → Bst} {g : List Int → Int → Bool} {ids a : List Int} {B : Int} (hB : 0 ≤ B) (h : ∀ b, -1 ≤ (rec b).2 ∧ (rec b).2 ≤ B) : ∀ k, -1 ≤ (bestTo rec g ids a k).2 ∧ (bestTo rec g ids a k).2 ≤ B
  | 0 => by simp [bestTo]; omega
  | k + 1 => by
    have ih := bestTo_rng (g := g) (ids := ids) (a := a) hB h k
    rw [bestTo]
    split
    · exact ih
    · split
      · exact h _
      · exact ih
theorem bestN_rng {ids : List Int} {g : List Int → Int → Bool} {stp : List Int → Int} (hs : ∀ a, 0 ≤ stp a ∧ stp a ≤ 8000) : ∀ (f : Nat) (a : List Int), -1 ≤ (bestN ids g stp f a).2 ∧ (bestN ids g stp f a).2 ≤ 8000 * (f : Int)
  | 0, a => by simp [bestN]
  | f + 1, a => by
    have h := bestTo_rng (g := g) (ids := ids) (a := a) (rec := bestN ids g stp f) (B := 8000 * (f : Int)) (by omega) (bestN_rng hs f) ids.length
    have := hs a
    rw [bestN]
    split
    · simp; omega
    · unfold bestEnd
      split
      · omega
      · simp only; omega
def gtOf (gt : Bool) (ps : List Pp) (l : List Vl) (src : Int) (a : List Int) (x : Int) : Bool := !gt || (rchB ps l src a x || !rchB ps l src (shutL l) x)
/-- what the recursion hands out -/
def BOut (h0 : Nat) (K : Heap) (r : Bst) (v : Value) (G : Heap) : Prop :=
  ∃ g c, v = .tuple #[.slice (some ⟨g, 0, none⟩) r.1.length c, .int .i64 r.2] ∧ G.get g = some ⟨r.1.flatMap nmE, true, 3, 1⟩ ∧ VK K G ∧ KQ K G ∧ h0 ≤ g
theorem l18Best_R (n : Int) (ps : List Pp) (l : List Vl) (src : Int) (cu : List Int) (hq : askR n ps l src = true) (hcu : custOk n cu = true) (gt : Bool) (tp cp tv cv tw cw : Nat) (h0 : Nat) :
    ∀ (f : Nat) (a : List Int) (d u : Nat) (K : Heap), GoodA (shutL l) a → (shutL l).length - a.length < f → f ≤ 7 → Sl ppE K tp ps → Sl vlE K tv l → Sl nmE K tw cu → K.get u = some ⟨a.flatMap nmE, true, 3, 1⟩ → h0 ≤ u → h0 ≤ K.length →
    AFunR Try.prog 56 [netV n tp ps.length cp, .slice (some ⟨tv, 0, none⟩) l.length cv, .int .i64 src, .slice (some ⟨tw, 0, none⟩) cu.length cw, .bool gt, .slice (some ⟨u, 0, none⟩) a.length d] K (BOut h0 K (bestN (shutL l) (gtOf gt ps l src) (fun a => stepN n ps l src a cu) f a))
  | 0, a, d, u, K, hg, hf, hf7, hP, hS, hC, hu, hub, hkb => absurd hf (Nat.not_lt_zero _)
  | f + 1, a, d, u, K, hg, hf, hf7, hP, hS, hC, hu, hub, hkb => by
    have hle := hg.le
    obtain ⟨hgv, hN, hl10, hsrc, hs6⟩ := askR_at hq
    have hn := hN.f_n
    have hcr := (custOk_at hcu).2
    have hut := Heap.get_lt hu
    have htp := hP.lt
    have htv := hS.lt
    have htw := hC.lt
    have hal : a.length ≤ 6 := by omega
    have hSu0 : Sl nmE K u a := ⟨_, [], hu, by simp⟩
    have hsl := shutL_length l
    have hstp := fun b => stepN_rng hn (ps := ps) (l := l) (src := src) (ids := b) hcr
    have hun : bestN (shutL l) (gtOf gt ps l src) (fun a => stepN n ps l src a cu) (f + 1) a = if a.length = (shutL l).length then (a, 0) else bestEnd (fun a => stepN n ps l src a cu) a (bestTo (bestN (shutL l) (gtOf gt ps l src) (fun a => stepN n ps l src a cu) f) (gtOf gt ps l src) (shutL l) a (shutL l).length) := rfl
    have hrr := fun b => bestN_rng (ids := shutL l) (g := gtOf gt ps l src) (stp := fun a => stepN n ps l src a cu) hstp f b
    have hrr2 := fun k => bestTo_rng (g := gtOf gt ps l src) (ids := shutL l) (a := a) (B := 8000 * (f : Int)) (by omega) hrr k
    refine AFunR.of_body Try.func56 (by kernel_rfl) rfl (by kernel_rfl) (by simp [Try.ntmps56]) ?_
    simp -dsimp -implicitDefEqProofs (disch := omega) [go_sem, -List.getD_eq_getElem?_getD, ite_yes, htp, htv, htw, hut]
    refine ACall.of (l18Shut_A l (by omega) cv _ tv hS.app) ?_
    by_cases hl : a.length = (shutL l).length
    · have hl' : (a.length : Int) = ((shutL l).length : Int) := by omega
      rw [hun, if_pos hl]
      have kq : KQ K (K ++ [some ⟨[.int .i64 n, .slice (some ⟨tp, 0, none⟩) ps.length cp], true, 33, 1⟩, some ⟨(shutL l).flatMap nmE, true, 3, 1⟩]) := KQ.app
      have vk : VK K (K ++ [some ⟨[.int .i64 n, .slice (some ⟨tp, 0, none⟩) ps.length cp], true, 33, 1⟩, some ⟨(shutL l).flatMap nmE, true, 3, 1⟩]) := by
        have h1 := VK.snoc (K := K) (b := ⟨[.int .i64 n, .slice (some ⟨tp, 0, none⟩) ps.length cp], true, 33, 1⟩) (wm_net (h := K.length) htp _ _ (fun t ht => sg_id (by omega)) (by omega))
        have h2 := VK.snoc (K := K ++ [some ⟨[.int .i64 n, .slice (some ⟨tp, 0, none⟩) ps.length cp], true, 33, 1⟩]) (b := ⟨(shutL l).flatMap nmE, true, 3, 1⟩) (L2.refl fun x hx => WM_flat (List.all_eq_true.1 (nmE_flat _) x hx))
        have := h1.trans h2
        rwa [List.append_assoc] at this
      simp -dsimp -implicitDefEqProofs (disch := omega) [go_sem, -List.getD_eq_getElem?_getD, ite_yes, hl', hl, htp, htv, htw, hut]
      refine EndR.of (.tuple #[.slice (some ⟨u, 0, none⟩) a.length d, .int .i64 0]) _ ⟨u, d, rfl, kq.get hu, vk, kq, hub⟩ (fin_vk vk (by simp -dsimp -implicitDefEqProofs (disch := omega) [go_sem, -List.getD_eq_getElem?_getD, ite_yes, hut]; try omega))
    have hl' : ¬ (a.length : Int) = ((shutL l).length : Int) := by omega
    have hl2 : a.length < (shutL l).length := by omega
    rw [hun, if_neg hl]
    simp -dsimp -implicitDefEqProofs (disch := omega) [go_sem, -List.getD_eq_getElem?_getD, ite_yes, hl', hl, htp, htv, htw, hut]
    have kq0 : KQ K (K ++ [some ⟨[.int .i64 n, .slice (some ⟨tp, 0, none⟩) ps.length cp], true, 33, 1⟩, some ⟨(shutL l).flatMap nmE, true, 3, 1⟩, some ⟨[], true, 3, 1⟩]) := KQ.app
    have vk0 : VK K (K ++ [some ⟨[.int .i64 n, .slice (some ⟨tp, 0, none⟩) ps.length cp], true, 33, 1⟩, some ⟨(shutL l).flatMap nmE, true, 3, 1⟩, some ⟨[], true, 3, 1⟩]) := by
      have h1 := VK.snoc (K := K) (b := ⟨[.int .i64 n, .slice (some ⟨tp, 0, none⟩) ps.length cp], true, 33, 1⟩) (wm_net (h := K.length) htp _ _ (fun t ht => sg_id (by omega)) (by omega))
      have h2 := VK.snoc (K := K ++ [some ⟨[.int .i64 n, .slice (some ⟨tp, 0, none⟩) ps.length cp], true, 33, 1⟩]) (b := ⟨(shutL l).flatMap nmE, true, 3, 1⟩) (L2.refl fun x hx => WM_flat (List.all_eq_true.1 (nmE_flat _) x hx))
      have h3 := VK.snoc (K := K ++ [some ⟨[.int .i64 n, .slice (some ⟨tp, 0, none⟩) ps.length cp], true, 33, 1⟩] ++ [some ⟨(shutL l).flatMap nmE, true, 3, 1⟩]) (b := ⟨[], true, 3, 1⟩) trivial
      have := (h1.trans h2).trans h3
      rwa [List.append_assoc, List.append_assoc] at this
    refine ALoop.intro (ι := Nat × Nat × Nat × Heap) (fun q => q.1 ≤ (shutL l).length ∧ VK K q.2.2.2 ∧ KQ K q.2.2.2 ∧ aCells q.2.2.2 ⟨K.length, 0, none⟩ 2 = some [.int .i64 n, .slice (some ⟨tp, 0, none⟩) ps.length cp] ∧ Sl nmE q.2.2.2 (K.length + 1) (shutL l) ∧ K.length + 1 < q.2.2.2.length ∧ h0 ≤ q.2.1 ∧
        q.2.2.2.get q.2.1 = some ⟨(bestTo (bestN (shutL l) (gtOf gt ps l src) (fun a => stepN n ps l src a cu) f) (gtOf gt ps l src) (shutL l) a q.1).1.flatMap nmE, true, 3, 1⟩)
      (fun q => [(1, .slice (some ⟨tv, 0, none⟩) l.length cv), (2, .int .i64 src), (3, .slice (some ⟨tw, 0, none⟩) cu.length cw), (4, .bool gt), (5, .slice (some ⟨u, 0, none⟩) a.length d), (6, .pointer (some ⟨K.length, 0, none⟩)), (14, .slice (some ⟨K.length + 1, 0, none⟩) (shutL l).length 0),
        (15, .slice (some ⟨q.2.1, 0, none⟩) (bestTo (bestN (shutL l) (gtOf gt ps l src) (fun a => stepN n ps l src a cu) f) (gtOf gt ps l src) (shutL l) a q.1).1.length q.2.2.1), (16, .int .i64 (bestTo (bestN (shutL l) (gtOf gt ps l src) (fun a => stepN n ps l src a cu) f) (gtOf gt ps l src) (shutL l) a q.1).2), (17, .int .i64 q.1)]) (fun q => q.2.2.2) (fun q => (shutL l).length - q.1)
      (0, K.length + 2, 0, K ++ [some ⟨[.int .i64 n, .slice (some ⟨tp, 0, none⟩) ps.length cp], true, 33, 1⟩, some ⟨(shutL l).flatMap nmE, true, 3, 1⟩, some ⟨[], true, 3, 1⟩]) ⟨by omega, vk0, kq0, by simp -dsimp -implicitDefEqProofs (disch := omega) [go_sem, -List.getD_eq_getElem?_getD, ite_yes], Sl.of1 rfl, by simp, by show h0 ≤ K.length + 2; omega, (Heap.get_len_add _ _ 2).trans rfl⟩ ?_ ?_
    · exact weakS_vk vk0 (by simp -dsimp -implicitDefEqProofs (disch := omega) [go_sem, -List.getD_eq_getElem?_getD, ite_yes, htp, htv, htw, hut, bestTo])
    clear vk0 kq0
    rintro ⟨k, g, c, G⟩ ⟨hk, hV, hQ, cnet, cids, hlen, hgb, hgg⟩
    simp only at hk hV hQ cnet cids hlen hgb hgg ⊢
    have gtp : tp < G.length := Nat.lt_of_lt_of_le htp hQ.1
    have gtv : tv < G.length := Nat.lt_of_lt_of_le htv hQ.1
    have gtw : tw < G.length := Nat.lt_of_lt_of_le htw hQ.1
    have gut : u < G.length := Nat.lt_of_lt_of_le hut hQ.1
    have ggt := Heap.get_lt hgg
    have gP := hQ.sl hP
    have hlen0 : K.length < G.length := by omega
    have gS := hQ.sl hS
    have gC := hQ.sl hC
    have gA := hQ.get hu
    have gSu : Sl nmE G u a := ⟨_, [], gA, by simp⟩
    by_cases hlt : k < (shutL l).length
    rotate_left
    · obtain rfl : k = (shutL l).length := by omega
      have hR := hrr2 (shutL l).length
      generalize bestTo (bestN (shutL l) (gtOf gt ps l src) (fun a => stepN n ps l src a cu) f) (gtOf gt ps l src) (shutL l) a (shutL l).length = R at *
      have hst := hstp a
      have A := l18Step_A n ps hN cp l (by omega) cv src hsrc a (by omega) d 0 cu hcu cw G tp tv u tw gP gS (IdS.of gSu) gC
      generalize hstv : stepN n ps l src a cu = st at *
      by_cases hneg : R.2 < 0
      · simp -dsimp -implicitDefEqProofs (disch := omega) [go_sem, -List.getD_eq_getElem?_getD, ite_yes, hlt, hneg]
        exact EndR.of (.tuple #[.slice (some ⟨g, 0, none⟩) R.1.length c, .int .i64 R.2]) G ⟨g, c, by rw [bestEnd, if_pos hneg], by rw [bestEnd, if_pos hneg]; exact hgg, hV, hQ, hgb⟩ (fin_vk hV (by simp -dsimp -implicitDefEqProofs (disch := omega) [go_sem, -List.getD_eq_getElem?_getD, ite_yes, ggt]))
      · simp -dsimp -implicitDefEqProofs (disch := omega) [go_sem, -List.getD_eq_getElem?_getD, ite_yes, hlt, hneg, cnet]
        refine ACall.of A ?_
        simp -dsimp -implicitDefEqProofs (disch := omega) [go_sem, -List.getD_eq_getElem?_getD, ite_yes]
        exact EndR.of (.tuple #[.slice (some ⟨g, 0, none⟩) R.1.length c, .int .i64 (R.2 + st)]) G ⟨g, c, by rw [bestEnd, if_neg hneg]; simp only [hstv], by rw [bestEnd, if_neg hneg]; exact hgg, hV, hQ, hgb⟩ (fin_vk hV (by simp -dsimp -implicitDefEqProofs (disch := omega) [go_sem, -List.getD_eq_getElem?_getD, ite_yes, ggt]))
    have c1 := cids.one (g := fun n => Value.int .i64 n) 0 k hlt
    have hlti : (k : Int) < ((shutL l).length : Int) := by omega
    have hidm : hasI (shutL l) ((shutL l).getD k 0) = true := by
      refine decide_eq_true ?_
      rw [List.getD_eq_getElem?_getD, List.getElem?_eq_getElem hlt]; exact List.getElem_mem hlt
    have e : bestTo (bestN (shutL l) (gtOf gt ps l src) (fun a => stepN n ps l src a cu) f) (gtOf gt ps l src) (shutL l) a (k + 1) = if hasI a ((shutL l).getD k 0) = true ∨ gtOf gt ps l src a ((shutL l).getD k 0) = false then bestTo (bestN (shutL l) (gtOf gt ps l src) (fun a => stepN n ps l src a cu) f) (gtOf gt ps l src) (shutL l) a k else
        if 0 ≤ (bestN (shutL l) (gtOf gt ps l src) (fun a => stepN n ps l src a cu) f (a ++ [(shutL l).getD k 0])).2 ∧ ((bestTo (bestN (shutL l) (gtOf gt ps l src) (fun a => stepN n ps l src a cu) f) (gtOf gt ps l src) (shutL l) a k).2 < 0 ∨ (bestN (shutL l) (gtOf gt ps l src) (fun a => stepN n ps l src a cu) f (a ++ [(shutL l).getD k 0])).2 < (bestTo (bestN (shutL l) (gtOf gt ps l src) (fun a => stepN n ps l src a cu) f) (gtOf gt ps l src) (shutL l) a k).2) then bestN (shutL l) (gtOf gt ps l src) (fun a => stepN n ps l src a cu) f (a ++ [(shutL l).getD k 0]) else bestTo (bestN (shutL l) (gtOf gt ps l src) (fun a => stepN n ps l src a cu) f) (gtOf gt ps l src) (shutL l) a k := rfl
    have rE : hasI a ((shutL l).getD k 0) = false → ∀ (d' u' : Nat) (G' : Heap), Sl ppE G' tp ps → Sl vlE G' tv l → Sl nmE G' tw cu → G'.get u' = some ⟨(a ++ [(shutL l).getD k 0]).flatMap nmE, true, 3, 1⟩ → h0 ≤ u' → h0 ≤ G'.length →
        AFunR Try.prog 56 [netV n tp ps.length cp, .slice (some ⟨tv, 0, none⟩) l.length cv, .int .i64 src, .slice (some ⟨tw, 0, none⟩) cu.length cw, .bool gt, .slice (some ⟨u', 0, none⟩) (a.length + 1) d'] G' (BOut h0 G' (bestN (shutL l) (gtOf gt ps l src) (fun a => stepN n ps l src a cu) f (a ++ [(shutL l).getD k 0]))) := by
      intro h1 d' u' G' h2 h3 h4 h5 h6 h7
      have hgood := hg.snoc hlt h1
      have := l18Best_R n ps l src cu hq hcu gt tp cp tv cv tw cw h0 f (a ++ [(shutL l).getD k 0]) d' u' G' hgood (by rw [List.length_append, List.length_singleton]; have := hgood.le; rw [List.length_append, List.length_singleton] at this; omega) (by omega) h2 h3 h4 h5 h6 h7
      rwa [List.length_append, List.length_singleton] at this
    have hr' := hrr (a ++ [(shutL l).getD k 0])
    have hR := hrr2 k
    have eap : (a ++ [(shutL l).getD k 0]).flatMap nmE = a.flatMap nmE ++ [.int .i64 ((shutL l).getD k 0)] := by rw [List.flatMap_append]; rfl
    have hfa : (a.flatMap nmE).length = a.length := by rw [nmE_length]; omega
    generalize bestN (shutL l) (gtOf gt ps l src) (fun a => stepN n ps l src a cu) f (a ++ [(shutL l).getD k 0]) = r at *
    generalize hRk : bestTo (bestN (shutL l) (gtOf gt ps l src) (fun a => stepN n ps l src a cu) f) (gtOf gt ps l src) (shutL l) a k = R at *
    generalize (shutL l).getD k 0 = id at *
    have stay : bestTo (bestN (shutL l) (gtOf gt ps l src) (fun a => stepN n ps l src a cu) f) (gtOf gt ps l src) (shutL l) a (k + 1) = R →
        G.get g = some ⟨(bestTo (bestN (shutL l) (gtOf gt ps l src) (fun a => stepN n ps l src a cu) f) (gtOf gt ps l src) (shutL l) a (k + 1)).1.flatMap nmE, true, 3, 1⟩ := fun h => by rw [h]; exact hgg
    simp -dsimp -implicitDefEqProofs (disch := omega) [go_sem, -List.getD_eq_getElem?_getD, ite_yes, hlti, hlt]
    by_cases hsk : hasI a id = true ∨ gtOf gt ps l src a id = false
    · rw [if_pos hsk] at e
      refine ADraw.mid [(1, .slice (some ⟨tv, 0, none⟩) l.length cv), (2, .int .i64 src), (3, .slice (some ⟨tw, 0, none⟩) cu.length cw), (4, .bool gt), (5, .slice (some ⟨u, 0, none⟩) a.length d), (6, .pointer (some ⟨K.length, 0, none⟩)), (14, .slice (some ⟨K.length + 1, 0, none⟩) (shutL l).length 0), (15, .slice (some ⟨g, 0, none⟩) R.1.length c), (16, .int .i64 R.2), (17, .int .i64 k), (55, .bool true)] G ?_ ?_
      · cases h1 : hasI a id
        · have hgt : gt = true := by
            cases gt
            · rcases hsk with h | h
              · rw [h1] at h; cases h
              · cases h
            · rfl
          subst hgt
          have h2 : (rchB ps l src a id || !rchB ps l src (shutL l) id) = false := by
            rcases hsk with h | h
            · rw [h1] at h; cases h
            · exact h
          refine ADraw.quiet (by kernel_rfl) (by kernel_rfl) (by kernel_rfl) ?_
          simp -dsimp -implicitDefEqProofs (disch := omega) [go_sem, -List.getD_eq_getElem?_getD, ite_yes, hlti, hlt, c1, hlen, hlen0, cnet]
          refine ACallQ.of (l1Has_A a id (by omega) d _ u gSu.ro) rfl ?_
          simp -dsimp -implicitDefEqProofs (disch := omega) [go_sem, -List.getD_eq_getElem?_getD, ite_yes, h1, hlti, hlt, c1, hlen, hlen0, cnet]
          refine ACallQ.of (l18Gentle_A n ps cp l hgv cv src hsrc a (by omega) d 0 id hidm _ tp tv u gP.ro gS.ro (IdS.of gSu).ro) rfl ?_
          rw [h2]
          simp -dsimp -implicitDefEqProofs (disch := omega) [go_sem, -List.getD_eq_getElem?_getD, ite_yes]
          exact ⟨weakS_vk hV (by simp -dsimp -implicitDefEqProofs (disch := omega) [go_sem, -List.getD_eq_getElem?_getD, ite_yes, gtp, gtv, gtw, gut, ggt, hlen, hlen0])⟩
        · skip
          refine ADraw.quiet (by kernel_rfl) (by kernel_rfl) (by kernel_rfl) ?_
          simp -dsimp -implicitDefEqProofs (disch := omega) [go_sem, -List.getD_eq_getElem?_getD, ite_yes, hlti, hlt, c1, hlen, hlen0, cnet]
          refine ACallQ.of (l1Has_A a id (by omega) d _ u gSu.ro) rfl ?_
          simp -dsimp -implicitDefEqProofs (disch := omega) [go_sem, -List.getD_eq_getElem?_getD, ite_yes, h1]
          exact ⟨weakS_vk hV (by simp -dsimp -implicitDefEqProofs (disch := omega) [go_sem, -List.getD_eq_getElem?_getD, ite_yes, gtp, gtv, gtw, gut, ggt, hlen, hlen0])⟩
      simp -dsimp -implicitDefEqProofs (disch := omega) [go_sem, -List.getD_eq_getElem?_getD, ite_yes]
      exact LoopEnd.of (k + 1, g, c, G) ⟨by omega, hV, hQ, cnet, cids, hlen, hgb, stay e⟩ (by omega) (weakS_vk hV (by simp -dsimp -implicitDefEqProofs (disch := omega) [go_sem, -List.getD_eq_getElem?_getD, ite_yes, gtp, gtv, gtw, gut, ggt, hlen, hlen0, e]))
    refine ADraw.mid [(1, .slice (some ⟨tv, 0, none⟩) l.length cv), (2, .int .i64 src), (3, .slice (some ⟨tw, 0, none⟩) cu.length cw), (4, .bool gt), (5, .slice (some ⟨u, 0, none⟩) a.length d), (6, .pointer (some ⟨K.length, 0, none⟩)), (14, .slice (some ⟨K.length + 1, 0, none⟩) (shutL l).length 0), (15, .slice (some ⟨g, 0, none⟩) R.1.length c), (16, .int .i64 R.2), (17, .int .i64 k), (55, .bool false)] G ?_ ?_
    · have h1 : hasI a id = false := by cases h : hasI a id; (· rfl); (· exact absurd (.inl h) hsk)
      cases gt
      · skip
        refine ADraw.quiet (by kernel_rfl) (by kernel_rfl) (by kernel_rfl) ?_
        simp -dsimp -implicitDefEqProofs (disch := omega) [go_sem, -List.getD_eq_getElem?_getD, ite_yes, hlti, hlt, c1, hlen, hlen0, cnet]
        refine ACallQ.of (l1Has_A a id (by omega) d _ u gSu.ro) rfl ?_
        simp -dsimp -implicitDefEqProofs (disch := omega) [go_sem, -List.getD_eq_getElem?_getD, ite_yes, h1]
        exact ⟨weakS_vk hV (by simp -dsimp -implicitDefEqProofs (disch := omega) [go_sem, -List.getD_eq_getElem?_getD, ite_yes, gtp, gtv, gtw, gut, ggt, hlen, hlen0])⟩
      · have h2 : (rchB ps l src a id || !rchB ps l src (shutL l) id) = true := by
          cases h : (rchB ps l src a id || !rchB ps l src (shutL l) id)
          · exact absurd (.inr h) hsk
          · rfl
        refine ADraw.quiet (by kernel_rfl) (by kernel_rfl) (by kernel_rfl) ?_
        simp -dsimp -implicitDefEqProofs (disch := omega) [go_sem, -List.getD_eq_getElem?_getD, ite_yes, hlti, hlt, c1, hlen, hlen0, cnet]
        refine ACallQ.of (l1Has_A a id (by omega) d _ u gSu.ro) rfl ?_
        simp -dsimp -implicitDefEqProofs (disch := omega) [go_sem, -List.getD_eq_getElem?_getD, ite_yes, h1, hlti, hlt, c1, hlen, hlen0, cnet]
        refine ACallQ.of (l18Gentle_A n ps cp l hgv cv src hsrc a (by omega) d 0 id hidm _ tp tv u gP.ro gS.ro (IdS.of gSu).ro) rfl ?_
        rw [h2]
        simp -dsimp -implicitDefEqProofs (disch := omega) [go_sem, -List.getD_eq_getElem?_getD, ite_yes]
        exact ⟨weakS_vk hV (by simp -dsimp -implicitDefEqProofs (disch := omega) [go_sem, -List.getD_eq_getElem?_getD, ite_yes, gtp, gtv, gtw, gut, ggt, hlen, hlen0])⟩
    have hns : ¬ (hasI a id = true ∨ gtOf gt ps l src a id = false) := hsk
    rw [if_neg hns] at e
    have h1 : hasI a id = false := by cases h : hasI a id ; (· rfl); (· exact absurd (.inl h) hns)
    simp -dsimp -implicitDefEqProofs (disch := omega) [go_sem, -List.getD_eq_getElem?_getD, ite_yes]
    refine ADraw.midR (fun fr1 H1 => ∃ g' c', fr1 = [(1, .slice (some ⟨tv, 0, none⟩) l.length cv), (2, .int .i64 src), (3, .slice (some ⟨tw, 0, none⟩) cu.length cw), (4, .bool gt), (5, .slice (some ⟨u, 0, none⟩) a.length d), (6, .pointer (some ⟨K.length, 0, none⟩)), (14, .slice (some ⟨K.length + 1, 0, none⟩) (shutL l).length 0), (15, .slice (some ⟨g, 0, none⟩) R.1.length c), (16, .int .i64 R.2), (17, .int .i64 k), (18, .slice (some ⟨g', 0, none⟩) r.1.length c'), (19, .int .i64 r.2)] ∧ H1.get g' = some ⟨r.1.flatMap nmE, true, 3, 1⟩ ∧ KQ G H1 ∧ VK K H1 ∧ h0 ≤ g' ∧ g' < H1.length) ?_ ?_
    · skip
      refine ADraw.any G (by kernel_rfl) (SubH.refl) ?_
      refine AAny.takes (fuel := 10) (by kernel_rfl) (by kernel_rfl) [1, 2, 3, 4, 5, 7, 8, 9, 10] (by kernel_rfl) (by kernel_rfl) ?_
      simp -dsimp -implicitDefEqProofs (disch := omega) [go_sem, -List.getD_eq_getElem?_getD, ite_yes, hlti, hlt, c1, hlen, hlen0, cnet, gut, hfa]
      refine AAny.three 9 0 6 11 (by kernel_rfl) (by kernel_rfl) (by kernel_rfl) ?_ ?_ ?_
      · simp -dsimp -implicitDefEqProofs (disch := omega) [go_sem, -List.getD_eq_getElem?_getD, ite_yes, hlti, hlt, c1, hlen, hlen0, cnet, gut, hfa]
        first | refine AAt.of (by first | exact SubH.refl | exact SubH.app | exact (KQ.app.trans hQ').sub) ?_ | (refine ⟨?_, AAt.of (by first | exact SubH.refl | exact SubH.app | exact (KQ.app.trans hQ').sub) ?_⟩; · omega)
        refine AAny.two 8 6 11 (by kernel_rfl) (by kernel_rfl) (by kernel_rfl) ?_ ?_
        · simp -dsimp -implicitDefEqProofs (disch := omega) [go_sem, -List.getD_eq_getElem?_getD, ite_yes, hlti, hlt, c1, hlen, hlen0, cnet, gut, hfa]
          first | refine ACall.of (l1Own_A a (by omega) d _ u gSu) ?_ | refine ACall.of (l1Own_A a (by omega) d _ u gSu.app) ?_
          simp -dsimp -implicitDefEqProofs (disch := omega) [go_sem, -List.getD_eq_getElem?_getD, ite_yes, hlti, hlt, c1, hlen, hlen0, cnet, gut, hfa]
          first | refine AAt.of (by first | exact SubH.refl | exact SubH.app | exact (KQ.app.trans hQ').sub) ?_ | (refine ⟨?_, AAt.of (by first | exact SubH.refl | exact SubH.app | exact (KQ.app.trans hQ').sub) ?_⟩; · omega)
          refine AAny.one 7 11 (by kernel_rfl) (by kernel_rfl) (by kernel_rfl) ?_
          simp -dsimp -implicitDefEqProofs (disch := omega) [go_sem, -List.getD_eq_getElem?_getD, ite_yes, hlti, hlt, c1, hlen, hlen0, cnet, gut, hfa]
          first | refine AAt.of (by first | exact SubH.refl | exact SubH.app | exact (KQ.app.trans hQ').sub) ?_ | (refine ⟨?_, AAt.of (by first | exact SubH.refl | exact SubH.app | exact (KQ.app.trans hQ').sub) ?_⟩; · omega)
          refine AAny.one 6 12 (by kernel_rfl) (by kernel_rfl) (by kernel_rfl) ?_
          simp -dsimp -implicitDefEqProofs (disch := omega) [go_sem, -List.getD_eq_getElem?_getD, ite_yes, hlti, hlt, c1, hlen, hlen0, cnet, gut, hfa]
          first | refine AAt.of (by first | exact SubH.refl | exact SubH.app | exact (KQ.app.trans hQ').sub) ?_ | (refine ⟨?_, AAt.of (by first | exact SubH.refl | exact SubH.app | exact (KQ.app.trans hQ').sub) ?_⟩; · omega)
          refine AAny.one 5 13 (by kernel_rfl) (by kernel_rfl) (by kernel_rfl) ?_
          simp -dsimp -implicitDefEqProofs (disch := omega) [go_sem, -List.getD_eq_getElem?_getD, ite_yes, hlti, hlt, c1, hlen, hlen0, cnet, gut, hfa]
          refine ACall.via (rE h1 _ (G.length + 2) _ gP.app gS.app gC.app ((Heap.get_len_add _ _ 2).trans (by rw [eap]; rfl)) (by have := hQ.1; omega) (by have := hQ.1; simp; omega)) ?_
          rintro v G' ⟨g', c', rfl, hg', hV', hQ', hgb'⟩
          simp -dsimp -implicitDefEqProofs (disch := omega) [go_sem, -List.getD_eq_getElem?_getD, ite_yes, hlti, hlt, c1, hlen, hlen0, cnet, gut, hfa]
          first | refine AAt.of (by first | exact SubH.refl | exact SubH.app | exact (KQ.app.trans hQ').sub) ?_ | (refine ⟨?_, AAt.of (by first | exact SubH.refl | exact SubH.app | exact (KQ.app.trans hQ').sub) ?_⟩; · omega)
          refine AAny.takes (fuel := 0) (by kernel_rfl) (by kernel_rfl) [14, 15, 16, 17, 18] (by kernel_rfl) (by kernel_rfl) ?_
          simp -dsimp -implicitDefEqProofs (disch := omega) [go_sem, -List.getD_eq_getElem?_getD, ite_yes, hlti, hlt, c1, hlen, hlen0, cnet, gut, hfa]
          refine AAny.done (by kernel_rfl) ?_
          simp -dsimp -implicitDefEqProofs (disch := omega) [go_sem, -List.getD_eq_getElem?_getD, ite_yes, hlti, hlt, c1, hlen, hlen0, cnet, gut, hfa]
          have kq := KQ.app.trans hQ'
          have kV := (hV.trans (VK.app (flat3 (by first | exact trivial | exact (rfl : ([Value.int .i64 id] : List Value).all flat = true) | exact nmE_flat _ | exact eap ▸ nmE_flat _) (by first | exact trivial | exact (rfl : ([Value.int .i64 id] : List Value).all flat = true) | exact nmE_flat _ | exact eap ▸ nmE_flat _) (by first | exact trivial | exact (rfl : ([Value.int .i64 id] : List Value).all flat = true) | exact nmE_flat _ | exact eap ▸ nmE_flat _)))).trans hV'
          have k1 := Nat.lt_of_lt_of_le gtp kq.1
          have k2 := Nat.lt_of_lt_of_le gtv kq.1
          have k3 := Nat.lt_of_lt_of_le gtw kq.1
          have k4 := Nat.lt_of_lt_of_le gut kq.1
          have k5 := Nat.lt_of_lt_of_le ggt kq.1
          have k6 := Nat.lt_of_lt_of_le hlen kq.1
          have k7 := Heap.get_lt hg'
          have k0 : K.length < G'.length := by omega
          exact ⟨_, G', ⟨g', ⟨c', rfl⟩, hg', kq, kV, hgb', k7⟩, weakS_vk kV (by simp -dsimp -implicitDefEqProofs (disch := omega) [go_sem, -List.getD_eq_getElem?_getD, ite_yes, k0, k1, k2, k3, k4, k5, k6, k7])⟩
        · simp -dsimp -implicitDefEqProofs (disch := omega) [go_sem, -List.getD_eq_getElem?_getD, ite_yes, hlti, hlt, c1, hlen, hlen0, cnet, gut, hfa]
          first | refine AAt.of (by first | exact SubH.refl | exact SubH.app | exact (KQ.app.trans hQ').sub) ?_ | (refine ⟨?_, AAt.of (by first | exact SubH.refl | exact SubH.app | exact (KQ.app.trans hQ').sub) ?_⟩; · omega)
          refine AAny.one 7 6 (by kernel_rfl) (by kernel_rfl) (by kernel_rfl) ?_
          simp -dsimp -implicitDefEqProofs (disch := omega) [go_sem, -List.getD_eq_getElem?_getD, ite_yes, hlti, hlt, c1, hlen, hlen0, cnet, gut, hfa]
          first | refine ACall.of (l1Own_A a (by omega) d _ u gSu) ?_ | refine ACall.of (l1Own_A a (by omega) d _ u gSu.app) ?_
          simp -dsimp -implicitDefEqProofs (disch := omega) [go_sem, -List.getD_eq_getElem?_getD, ite_yes, hlti, hlt, c1, hlen, hlen0, cnet, gut, hfa]
          first | refine AAt.of (by first | exact SubH.refl | exact SubH.app | exact (KQ.app.trans hQ').sub) ?_ | (refine ⟨?_, AAt.of (by first | exact SubH.refl | exact SubH.app | exact (KQ.app.trans hQ').sub) ?_⟩; · omega)
          refine AAny.one 6 12 (by kernel_rfl) (by kernel_rfl) (by kernel_rfl) ?_
          simp -dsimp -implicitDefEqProofs (disch := omega) [go_sem, -List.getD_eq_getElem?_getD, ite_yes, hlti, hlt, c1, hlen, hlen0, cnet, gut, hfa]
          first | refine AAt.of (by first | exact SubH.refl | exact SubH.app | exact (KQ.app.trans hQ').sub) ?_ | (refine ⟨?_, AAt.of (by first | exact SubH.refl | exact SubH.app | exact (KQ.app.trans hQ').sub) ?_⟩; · omega)
          refine AAny.one 5 13 (by kernel_rfl) (by kernel_rfl) (by kernel_rfl) ?_
          simp -dsimp -implicitDefEqProofs (disch := omega) [go_sem, -List.getD_eq_getElem?_getD, ite_yes, hlti, hlt, c1, hlen, hlen0, cnet, gut, hfa]
          refine ACall.via (rE h1 _ (G.length + 2) _ gP.app gS.app gC.app ((Heap.get_len_add _ _ 2).trans (by rw [eap]; rfl)) (by have := hQ.1; omega) (by have := hQ.1; simp; omega)) ?_
          rintro v G' ⟨g', c', rfl, hg', hV', hQ', hgb'⟩
          simp -dsimp -implicitDefEqProofs (disch := omega) [go_sem, -List.getD_eq_getElem?_getD, ite_yes, hlti, hlt, c1, hlen, hlen0, cnet, gut, hfa]
          first | refine AAt.of (by first | exact SubH.refl | exact SubH.app | exact (KQ.app.trans hQ').sub) ?_ | (refine ⟨?_, AAt.of (by first | exact SubH.refl | exact SubH.app | exact (KQ.app.trans hQ').sub) ?_⟩; · omega)
          refine AAny.takes (fuel := 0) (by kernel_rfl) (by kernel_rfl) [14, 15, 16, 17, 18] (by kernel_rfl) (by kernel_rfl) ?_
          simp -dsimp -implicitDefEqProofs (disch := omega) [go_sem, -List.getD_eq_getElem?_getD, ite_yes, hlti, hlt, c1, hlen, hlen0, cnet, gut, hfa]
          refine AAny.done (by kernel_rfl) ?_
          simp -dsimp -implicitDefEqProofs (disch := omega) [go_sem, -List.getD_eq_getElem?_getD, ite_yes, hlti, hlt, c1, hlen, hlen0, cnet, gut, hfa]
          have kq := KQ.app.trans hQ'
          have kV := (hV.trans (VK.app (flat3 (by first | exact trivial | exact (rfl : ([Value.int .i64 id] : List Value).all flat = true) | exact nmE_flat _ | exact eap ▸ nmE_flat _) (by first | exact trivial | exact (rfl : ([Value.int .i64 id] : List Value).all flat = true) | exact nmE_flat _ | exact eap ▸ nmE_flat _) (by first | exact trivial | exact (rfl : ([Value.int .i64 id] : List Value).all flat = true) | exact nmE_flat _ | exact eap ▸ nmE_flat _)))).trans hV'
          have k1 := Nat.lt_of_lt_of_le gtp kq.1
          have k2 := Nat.lt_of_lt_of_le gtv kq.1
          have k3 := Nat.lt_of_lt_of_le gtw kq.1
          have k4 := Nat.lt_of_lt_of_le gut kq.1
          have k5 := Nat.lt_of_lt_of_le ggt kq.1
          have k6 := Nat.lt_of_lt_of_le hlen kq.1
          have k7 := Heap.get_lt hg'
          have k0 : K.length < G'.length := by omega
          exact ⟨_, G', ⟨g', ⟨c', rfl⟩, hg', kq, kV, hgb', k7⟩, weakS_vk kV (by simp -dsimp -implicitDefEqProofs (disch := omega) [go_sem, -List.getD_eq_getElem?_getD, ite_yes, k0, k1, k2, k3, k4, k5, k6, k7])⟩
      · simp -dsimp -implicitDefEqProofs (disch := omega) [go_sem, -List.getD_eq_getElem?_getD, ite_yes, hlti, hlt, c1, hlen, hlen0, cnet, gut, hfa]
        first | refine ACall.of (l1Own_A a (by omega) d _ u gSu) ?_ | refine ACall.of (l1Own_A a (by omega) d _ u gSu.app) ?_
        simp -dsimp -implicitDefEqProofs (disch := omega) [go_sem, -List.getD_eq_getElem?_getD, ite_yes, hlti, hlt, c1, hlen, hlen0, cnet, gut, hfa]
        first | refine AAt.of (by first | exact SubH.refl | exact SubH.app | exact (KQ.app.trans hQ').sub) ?_ | (refine ⟨?_, AAt.of (by first | exact SubH.refl | exact SubH.app | exact (KQ.app.trans hQ').sub) ?_⟩; · omega)
        refine AAny.two 8 0 11 (by kernel_rfl) (by kernel_rfl) (by kernel_rfl) ?_ ?_
        · simp -dsimp -implicitDefEqProofs (disch := omega) [go_sem, -List.getD_eq_getElem?_getD, ite_yes, hlti, hlt, c1, hlen, hlen0, cnet, gut, hfa]
          first | refine AAt.of (by first | exact SubH.refl | exact SubH.app | exact (KQ.app.trans hQ').sub) ?_ | (refine ⟨?_, AAt.of (by first | exact SubH.refl | exact SubH.app | exact (KQ.app.trans hQ').sub) ?_⟩; · omega)
          refine AAny.one 7 11 (by kernel_rfl) (by kernel_rfl) (by kernel_rfl) ?_
          simp -dsimp -implicitDefEqProofs (disch := omega) [go_sem, -List.getD_eq_getElem?_getD, ite_yes, hlti, hlt, c1, hlen, hlen0, cnet, gut, hfa]
          first | refine AAt.of (by first | exact SubH.refl | exact SubH.app | exact (KQ.app.trans hQ').sub) ?_ | (refine ⟨?_, AAt.of (by first | exact SubH.refl | exact SubH.app | exact (KQ.app.trans hQ').sub) ?_⟩; · omega)
          refine AAny.one 6 12 (by kernel_rfl) (by kernel_rfl) (by kernel_rfl) ?_
          simp -dsimp -implicitDefEqProofs (disch := omega) [go_sem, -List.getD_eq_getElem?_getD, ite_yes, hlti, hlt, c1, hlen, hlen0, cnet, gut, hfa]
          first | refine AAt.of (by first | exact SubH.refl | exact SubH.app | exact (KQ.app.trans hQ').sub) ?_ | (refine ⟨?_, AAt.of (by first | exact SubH.refl | exact SubH.app | exact (KQ.app.trans hQ').sub) ?_⟩; · omega)
          refine AAny.one 5 13 (by kernel_rfl) (by kernel_rfl) (by kernel_rfl) ?_
          simp -dsimp -implicitDefEqProofs (disch := omega) [go_sem, -List.getD_eq_getElem?_getD, ite_yes, hlti, hlt, c1, hlen, hlen0, cnet, gut, hfa]
          refine ACall.via (rE h1 _ (G.length + 2) _ gP.app gS.app gC.app ((Heap.get_len_add _ _ 2).trans (by rw [eap]; rfl)) (by have := hQ.1; omega) (by have := hQ.1; simp; omega)) ?_
          rintro v G' ⟨g', c', rfl, hg', hV', hQ', hgb'⟩
          simp -dsimp -implicitDefEqProofs (disch := omega) [go_sem, -List.getD_eq_getElem?_getD, ite_yes, hlti, hlt, c1, hlen, hlen0, cnet, gut, hfa]
          first | refine AAt.of (by first | exact SubH.refl | exact SubH.app | exact (KQ.app.trans hQ').sub) ?_ | (refine ⟨?_, AAt.of (by first | exact SubH.refl | exact SubH.app | exact (KQ.app.trans hQ').sub) ?_⟩; · omega)
          refine AAny.takes (fuel := 0) (by kernel_rfl) (by kernel_rfl) [14, 15, 16, 17, 18] (by kernel_rfl) (by kernel_rfl) ?_
          simp -dsimp -implicitDefEqProofs (disch := omega) [go_sem, -List.getD_eq_getElem?_getD, ite_yes, hlti, hlt, c1, hlen, hlen0, cnet, gut, hfa]
          refine AAny.done (by kernel_rfl) ?_
          simp -dsimp -implicitDefEqProofs (disch := omega) [go_sem, -List.getD_eq_getElem?_getD, ite_yes, hlti, hlt, c1, hlen, hlen0, cnet, gut, hfa]
          have kq := KQ.app.trans hQ'
          have kV := (hV.trans (VK.app (flat3 (by first | exact trivial | exact (rfl : ([Value.int .i64 id] : List Value).all flat = true) | exact nmE_flat _ | exact eap ▸ nmE_flat _) (by first | exact trivial | exact (rfl : ([Value.int .i64 id] : List Value).all flat = true) | exact nmE_flat _ | exact eap ▸ nmE_flat _) (by first | exact trivial | exact (rfl : ([Value.int .i64 id] : List Value).all flat = true) | exact nmE_flat _ | exact eap ▸ nmE_flat _)))).trans hV'
          have k1 := Nat.lt_of_lt_of_le gtp kq.1
          have k2 := Nat.lt_of_lt_of_le gtv kq.1
          have k3 := Nat.lt_of_lt_of_le gtw kq.1
          have k4 := Nat.lt_of_lt_of_le gut kq.1
          have k5 := Nat.lt_of_lt_of_le ggt kq.1
          have k6 := Nat.lt_of_lt_of_le hlen kq.1
          have k7 := Heap.get_lt hg'
          have k0 : K.length < G'.length := by omega
          exact ⟨_, G', ⟨g', ⟨c', rfl⟩, hg', kq, kV, hgb', k7⟩, weakS_vk kV (by simp -dsimp -implicitDefEqProofs (disch := omega) [go_sem, -List.getD_eq_getElem?_getD, ite_yes, k0, k1, k2, k3, k4, k5, k6, k7])⟩
        · simp -dsimp -implicitDefEqProofs (disch := omega) [go_sem, -List.getD_eq_getElem?_getD, ite_yes, hlti, hlt, c1, hlen, hlen0, cnet, gut, hfa]
          first | refine AAt.of (by first | exact SubH.refl | exact SubH.app | exact (KQ.app.trans hQ').sub) ?_ | (refine ⟨?_, AAt.of (by first | exact SubH.refl | exact SubH.app | exact (KQ.app.trans hQ').sub) ?_⟩; · omega)
          refine AAny.two 7 0 12 (by kernel_rfl) (by kernel_rfl) (by kernel_rfl) ?_ ?_
          · simp -dsimp -implicitDefEqProofs (disch := omega) [go_sem, -List.getD_eq_getElem?_getD, ite_yes, hlti, hlt, c1, hlen, hlen0, cnet, gut, hfa]
            first | refine AAt.of (by first | exact SubH.refl | exact SubH.app | exact (KQ.app.trans hQ').sub) ?_ | (refine ⟨?_, AAt.of (by first | exact SubH.refl | exact SubH.app | exact (KQ.app.trans hQ').sub) ?_⟩; · omega)
            refine AAny.one 6 12 (by kernel_rfl) (by kernel_rfl) (by kernel_rfl) ?_
            simp -dsimp -implicitDefEqProofs (disch := omega) [go_sem, -List.getD_eq_getElem?_getD, ite_yes, hlti, hlt, c1, hlen, hlen0, cnet, gut, hfa]
            first | refine AAt.of (by first | exact SubH.refl | exact SubH.app | exact (KQ.app.trans hQ').sub) ?_ | (refine ⟨?_, AAt.of (by first | exact SubH.refl | exact SubH.app | exact (KQ.app.trans hQ').sub) ?_⟩; · omega)
            refine AAny.one 5 13 (by kernel_rfl) (by kernel_rfl) (by kernel_rfl) ?_
            simp -dsimp -implicitDefEqProofs (disch := omega) [go_sem, -List.getD_eq_getElem?_getD, ite_yes, hlti, hlt, c1, hlen, hlen0, cnet, gut, hfa]
            refine ACall.via (rE h1 _ (G.length + 2) _ gP.app gS.app gC.app ((Heap.get_len_add _ _ 2).trans (by rw [eap]; rfl)) (by have := hQ.1; omega) (by have := hQ.1; simp; omega)) ?_
            rintro v G' ⟨g', c', rfl, hg', hV', hQ', hgb'⟩
            simp -dsimp -implicitDefEqProofs (disch := omega) [go_sem, -List.getD_eq_getElem?_getD, ite_yes, hlti, hlt, c1, hlen, hlen0, cnet, gut, hfa]
            first | refine AAt.of (by first | exact SubH.refl | exact SubH.app | exact (KQ.app.trans hQ').sub) ?_ | (refine ⟨?_, AAt.of (by first | exact SubH.refl | exact SubH.app | exact (KQ.app.trans hQ').sub) ?_⟩; · omega)
            refine AAny.takes (fuel := 0) (by kernel_rfl) (by kernel_rfl) [14, 15, 16, 17, 18] (by kernel_rfl) (by kernel_rfl) ?_
            simp -dsimp -implicitDefEqProofs (disch := omega) [go_sem, -List.getD_eq_getElem?_getD, ite_yes, hlti, hlt, c1, hlen, hlen0, cnet, gut, hfa]
            refine AAny.done (by kernel_rfl) ?_
            simp -dsimp -implicitDefEqProofs (disch := omega) [go_sem, -List.getD_eq_getElem?_getD, ite_yes, hlti, hlt, c1, hlen, hlen0, cnet, gut, hfa]
            have kq := KQ.app.trans hQ'
            have kV := (hV.trans (VK.app (flat3 (by first | exact trivial | exact (rfl : ([Value.int .i64 id] : List Value).all flat = true) | exact nmE_flat _ | exact eap ▸ nmE_flat _) (by first | exact trivial | exact (rfl : ([Value.int .i64 id] : List Value).all flat = true) | exact nmE_flat _ | exact eap ▸ nmE_flat _) (by first | exact trivial | exact (rfl : ([Value.int .i64 id] : List Value).all flat = true) | exact nmE_flat _ | exact eap ▸ nmE_flat _)))).trans hV'
            have k1 := Nat.lt_of_lt_of_le gtp kq.1
            have k2 := Nat.lt_of_lt_of_le gtv kq.1
            have k3 := Nat.lt_of_lt_of_le gtw kq.1
            have k4 := Nat.lt_of_lt_of_le gut kq.1
            have k5 := Nat.lt_of_lt_of_le ggt kq.1
            have k6 := Nat.lt_of_lt_of_le hlen kq.1
            have k7 := Heap.get_lt hg'
            have k0 : K.length < G'.length := by omega
            exact ⟨_, G', ⟨g', ⟨c', rfl⟩, hg', kq, kV, hgb', k7⟩, weakS_vk kV (by simp -dsimp -implicitDefEqProofs (disch := omega) [go_sem, -List.getD_eq_getElem?_getD, ite_yes, k0, k1, k2, k3, k4, k5, k6, k7])⟩
          · simp -dsimp -implicitDefEqProofs (disch := omega) [go_sem, -List.getD_eq_getElem?_getD, ite_yes, hlti, hlt, c1, hlen, hlen0, cnet, gut, hfa]
            first | refine AAt.of (by first | exact SubH.refl | exact SubH.app | exact (KQ.app.trans hQ').sub) ?_ | (refine ⟨?_, AAt.of (by first | exact SubH.refl | exact SubH.app | exact (KQ.app.trans hQ').sub) ?_⟩; · omega)
            refine AAny.one 6 0 (by kernel_rfl) (by kernel_rfl) (by kernel_rfl) ?_
            simp -dsimp -implicitDefEqProofs (disch := omega) [go_sem, -List.getD_eq_getElem?_getD, ite_yes, hlti, hlt, c1, hlen, hlen0, cnet, gut, hfa]
            first | refine AAt.of (by first | exact SubH.refl | exact SubH.app | exact (KQ.app.trans hQ').sub) ?_ | (refine ⟨?_, AAt.of (by first | exact SubH.refl | exact SubH.app | exact (KQ.app.trans hQ').sub) ?_⟩; · omega)
            refine AAny.one 5 13 (by kernel_rfl) (by kernel_rfl) (by kernel_rfl) ?_
            simp -dsimp -implicitDefEqProofs (disch := omega) [go_sem, -List.getD_eq_getElem?_getD, ite_yes, hlti, hlt, c1, hlen, hlen0, cnet, gut, hfa]
            refine ACall.via (rE h1 _ (G.length + 2) _ gP.app gS.app gC.app ((Heap.get_len_add _ _ 2).trans (by rw [eap]; rfl)) (by have := hQ.1; omega) (by have := hQ.1; simp; omega)) ?_
            rintro v G' ⟨g', c', rfl, hg', hV', hQ', hgb'⟩
            simp -dsimp -implicitDefEqProofs (disch := omega) [go_sem, -List.getD_eq_getElem?_getD, ite_yes, hlti, hlt, c1, hlen, hlen0, cnet, gut, hfa]
            first | refine AAt.of (by first | exact SubH.refl | exact SubH.app | exact (KQ.app.trans hQ').sub) ?_ | (refine ⟨?_, AAt.of (by first | exact SubH.refl | exact SubH.app | exact (KQ.app.trans hQ').sub) ?_⟩; · omega)
            refine AAny.takes (fuel := 0) (by kernel_rfl) (by kernel_rfl) [14, 15, 16, 17, 18] (by kernel_rfl) (by kernel_rfl) ?_
            simp -dsimp -implicitDefEqProofs (disch := omega) [go_sem, -List.getD_eq_getElem?_getD, ite_yes, hlti, hlt, c1, hlen, hlen0, cnet, gut, hfa]
            refine AAny.done (by kernel_rfl) ?_
            simp -dsimp -implicitDefEqProofs (disch := omega) [go_sem, -List.getD_eq_getElem?_getD, ite_yes, hlti, hlt, c1, hlen, hlen0, cnet, gut, hfa]
            have kq := KQ.app.trans hQ'
            have kV := (hV.trans (VK.app (flat3 (by first | exact trivial | exact (rfl : ([Value.int .i64 id] : List Value).all flat = true) | exact nmE_flat _ | exact eap ▸ nmE_flat _) (by first | exact trivial | exact (rfl : ([Value.int .i64 id] : List Value).all flat = true) | exact nmE_flat _ | exact eap ▸ nmE_flat _) (by first | exact trivial | exact (rfl : ([Value.int .i64 id] : List Value).all flat = true) | exact nmE_flat _ | exact eap ▸ nmE_flat _)))).trans hV'
            have k1 := Nat.lt_of_lt_of_le gtp kq.1
            have k2 := Nat.lt_of_lt_of_le gtv kq.1
            have k3 := Nat.lt_of_lt_of_le gtw kq.1
            have k4 := Nat.lt_of_lt_of_le gut kq.1
            have k5 := Nat.lt_of_lt_of_le ggt kq.1
            have k6 := Nat.lt_of_lt_of_le hlen kq.1
            have k7 := Heap.get_lt hg'
            have k0 : K.length < G'.length := by omega
            exact ⟨_, G', ⟨g', ⟨c', rfl⟩, hg', kq, kV, hgb', k7⟩, weakS_vk kV (by simp -dsimp -implicitDefEqProofs (disch := omega) [go_sem, -List.getD_eq_getElem?_getD, ite_yes, k0, k1, k2, k3, k4, k5, k6, k7])⟩
      · simp -dsimp -implicitDefEqProofs (disch := omega) [go_sem, -List.getD_eq_getElem?_getD, ite_yes, hlti, hlt, c1, hlen, hlen0, cnet, gut, hfa]
        first | refine AAt.of (by first | exact SubH.refl | exact SubH.app | exact (KQ.app.trans hQ').sub) ?_ | (refine ⟨?_, AAt.of (by first | exact SubH.refl | exact SubH.app | exact (KQ.app.trans hQ').sub) ?_⟩; · omega)
        refine AAny.two 8 0 6 (by kernel_rfl) (by kernel_rfl) (by kernel_rfl) ?_ ?_
        · simp -dsimp -implicitDefEqProofs (disch := omega) [go_sem, -List.getD_eq_getElem?_getD, ite_yes, hlti, hlt, c1, hlen, hlen0, cnet, gut, hfa]
          first | refine AAt.of (by first | exact SubH.refl | exact SubH.app | exact (KQ.app.trans hQ').sub) ?_ | (refine ⟨?_, AAt.of (by first | exact SubH.refl | exact SubH.app | exact (KQ.app.trans hQ').sub) ?_⟩; · omega)
          refine AAny.one 7 6 (by kernel_rfl) (by kernel_rfl) (by kernel_rfl) ?_
          simp -dsimp -implicitDefEqProofs (disch := omega) [go_sem, -List.getD_eq_getElem?_getD, ite_yes, hlti, hlt, c1, hlen, hlen0, cnet, gut, hfa]
          first | refine ACall.of (l1Own_A a (by omega) d _ u gSu) ?_ | refine ACall.of (l1Own_A a (by omega) d _ u gSu.app) ?_
          simp -dsimp -implicitDefEqProofs (disch := omega) [go_sem, -List.getD_eq_getElem?_getD, ite_yes, hlti, hlt, c1, hlen, hlen0, cnet, gut, hfa]
          first | refine AAt.of (by first | exact SubH.refl | exact SubH.app | exact (KQ.app.trans hQ').sub) ?_ | (refine ⟨?_, AAt.of (by first | exact SubH.refl | exact SubH.app | exact (KQ.app.trans hQ').sub) ?_⟩; · omega)
          refine AAny.one 6 12 (by kernel_rfl) (by kernel_rfl) (by kernel_rfl) ?_
          simp -dsimp -implicitDefEqProofs (disch := omega) [go_sem, -List.getD_eq_getElem?_getD, ite_yes, hlti, hlt, c1, hlen, hlen0, cnet, gut, hfa]
          first | refine AAt.of (by first | exact SubH.refl | exact SubH.app | exact (KQ.app.trans hQ').sub) ?_ | (refine ⟨?_, AAt.of (by first | exact SubH.refl | exact SubH.app | exact (KQ.app.trans hQ').sub) ?_⟩; · omega)
          refine AAny.one 5 13 (by kernel_rfl) (by kernel_rfl) (by kernel_rfl) ?_
          simp -dsimp -implicitDefEqProofs (disch := omega) [go_sem, -List.getD_eq_getElem?_getD, ite_yes, hlti, hlt, c1, hlen, hlen0, cnet, gut, hfa]
          refine ACall.via (rE h1 _ (G.length + 2) _ gP.app gS.app gC.app ((Heap.get_len_add _ _ 2).trans (by rw [eap]; rfl)) (by have := hQ.1; omega) (by have := hQ.1; simp; omega)) ?_
          rintro v G' ⟨g', c', rfl, hg', hV', hQ', hgb'⟩
          simp -dsimp -implicitDefEqProofs (disch := omega) [go_sem, -List.getD_eq_getElem?_getD, ite_yes, hlti, hlt, c1, hlen, hlen0, cnet, gut, hfa]
          first | refine AAt.of (by first | exact SubH.refl | exact SubH.app | exact (KQ.app.trans hQ').sub) ?_ | (refine ⟨?_, AAt.of (by first | exact SubH.refl | exact SubH.app | exact (KQ.app.trans hQ').sub) ?_⟩; · omega)
          refine AAny.takes (fuel := 0) (by kernel_rfl) (by kernel_rfl) [14, 15, 16, 17, 18] (by kernel_rfl) (by kernel_rfl) ?_
          simp -dsimp -implicitDefEqProofs (disch := omega) [go_sem, -List.getD_eq_getElem?_getD, ite_yes, hlti, hlt, c1, hlen, hlen0, cnet, gut, hfa]
          refine AAny.done (by kernel_rfl) ?_
          simp -dsimp -implicitDefEqProofs (disch := omega) [go_sem, -List.getD_eq_getElem?_getD, ite_yes, hlti, hlt, c1, hlen, hlen0, cnet, gut, hfa]
          have kq := KQ.app.trans hQ'
          have kV := (hV.trans (VK.app (flat3 (by first | exact trivial | exact (rfl : ([Value.int .i64 id] : List Value).all flat = true) | exact nmE_flat _ | exact eap ▸ nmE_flat _) (by first | exact trivial | exact (rfl : ([Value.int .i64 id] : List Value).all flat = true) | exact nmE_flat _ | exact eap ▸ nmE_flat _) (by first | exact trivial | exact (rfl : ([Value.int .i64 id] : List Value).all flat = true) | exact nmE_flat _ | exact eap ▸ nmE_flat _)))).trans hV'
          have k1 := Nat.lt_of_lt_of_le gtp kq.1
          have k2 := Nat.lt_of_lt_of_le gtv kq.1
          have k3 := Nat.lt_of_lt_of_le gtw kq.1
          have k4 := Nat.lt_of_lt_of_le gut kq.1
          have k5 := Nat.lt_of_lt_of_le ggt kq.1
          have k6 := Nat.lt_of_lt_of_le hlen kq.1
          have k7 := Heap.get_lt hg'
          have k0 : K.length < G'.length := by omega
          exact ⟨_, G', ⟨g', ⟨c', rfl⟩, hg', kq, kV, hgb', k7⟩, weakS_vk kV (by simp -dsimp -implicitDefEqProofs (disch := omega) [go_sem, -List.getD_eq_getElem?_getD, ite_yes, k0, k1, k2, k3, k4, k5, k6, k7])⟩
        · simp -dsimp -implicitDefEqProofs (disch := omega) [go_sem, -List.getD_eq_getElem?_getD, ite_yes, hlti, hlt, c1, hlen, hlen0, cnet, gut, hfa]
          first | refine ACall.of (l1Own_A a (by omega) d _ u gSu) ?_ | refine ACall.of (l1Own_A a (by omega) d _ u gSu.app) ?_
          simp -dsimp -implicitDefEqProofs (disch := omega) [go_sem, -List.getD_eq_getElem?_getD, ite_yes, hlti, hlt, c1, hlen, hlen0, cnet, gut, hfa]
          first | refine AAt.of (by first | exact SubH.refl | exact SubH.app | exact (KQ.app.trans hQ').sub) ?_ | (refine ⟨?_, AAt.of (by first | exact SubH.refl | exact SubH.app | exact (KQ.app.trans hQ').sub) ?_⟩; · omega)
          refine AAny.two 7 0 12 (by kernel_rfl) (by kernel_rfl) (by kernel_rfl) ?_ ?_
          · simp -dsimp -implicitDefEqProofs (disch := omega) [go_sem, -List.getD_eq_getElem?_getD, ite_yes, hlti, hlt, c1, hlen, hlen0, cnet, gut, hfa]
            first | refine AAt.of (by first | exact SubH.refl | exact SubH.app | exact (KQ.app.trans hQ').sub) ?_ | (refine ⟨?_, AAt.of (by first | exact SubH.refl | exact SubH.app | exact (KQ.app.trans hQ').sub) ?_⟩; · omega)
            refine AAny.one 6 12 (by kernel_rfl) (by kernel_rfl) (by kernel_rfl) ?_
            simp -dsimp -implicitDefEqProofs (disch := omega) [go_sem, -List.getD_eq_getElem?_getD, ite_yes, hlti, hlt, c1, hlen, hlen0, cnet, gut, hfa]
            first | refine AAt.of (by first | exact SubH.refl | exact SubH.app | exact (KQ.app.trans hQ').sub) ?_ | (refine ⟨?_, AAt.of (by first | exact SubH.refl | exact SubH.app | exact (KQ.app.trans hQ').sub) ?_⟩; · omega)
            refine AAny.one 5 13 (by kernel_rfl) (by kernel_rfl) (by kernel_rfl) ?_
            simp -dsimp -implicitDefEqProofs (disch := omega) [go_sem, -List.getD_eq_getElem?_getD, ite_yes, hlti, hlt, c1, hlen, hlen0, cnet, gut, hfa]
            refine ACall.via (rE h1 _ (G.length + 2) _ gP.app gS.app gC.app ((Heap.get_len_add _ _ 2).trans (by rw [eap]; rfl)) (by have := hQ.1; omega) (by have := hQ.1; simp; omega)) ?_
            rintro v G' ⟨g', c', rfl, hg', hV', hQ', hgb'⟩
            simp -dsimp -implicitDefEqProofs (disch := omega) [go_sem, -List.getD_eq_getElem?_getD, ite_yes, hlti, hlt, c1, hlen, hlen0, cnet, gut, hfa]
            first | refine AAt.of (by first | exact SubH.refl | exact SubH.app | exact (KQ.app.trans hQ').sub) ?_ | (refine ⟨?_, AAt.of (by first | exact SubH.refl | exact SubH.app | exact (KQ.app.trans hQ').sub) ?_⟩; · omega)
            refine AAny.takes (fuel := 0) (by kernel_rfl) (by kernel_rfl) [14, 15, 16, 17, 18] (by kernel_rfl) (by kernel_rfl) ?_
            simp -dsimp -implicitDefEqProofs (disch := omega) [go_sem, -List.getD_eq_getElem?_getD, ite_yes, hlti, hlt, c1, hlen, hlen0, cnet, gut, hfa]
            refine AAny.done (by kernel_rfl) ?_
            simp -dsimp -implicitDefEqProofs (disch := omega) [go_sem, -List.getD_eq_getElem?_getD, ite_yes, hlti, hlt, c1, hlen, hlen0, cnet, gut, hfa]
            have kq := KQ.app.trans hQ'
            have kV := (hV.trans (VK.app (flat3 (by first | exact trivial | exact (rfl : ([Value.int .i64 id] : List Value).all flat = true) | exact nmE_flat _ | exact eap ▸ nmE_flat _) (by first | exact trivial | exact (rfl : ([Value.int .i64 id] : List Value).all flat = true) | exact nmE_flat _ | exact eap ▸ nmE_flat _) (by first | exact trivial | exact (rfl : ([Value.int .i64 id] : List Value).all flat = true) | exact nmE_flat _ | exact eap ▸ nmE_flat _)))).trans hV'
            have k1 := Nat.lt_of_lt_of_le gtp kq.1
            have k2 := Nat.lt_of_lt_of_le gtv kq.1
            have k3 := Nat.lt_of_lt_of_le gtw kq.1
            have k4 := Nat.lt_of_lt_of_le gut kq.1
            have k5 := Nat.lt_of_lt_of_le ggt kq.1
            have k6 := Nat.lt_of_lt_of_le hlen kq.1
            have k7 := Heap.get_lt hg'
            have k0 : K.length < G'.length := by omega
            exact ⟨_, G', ⟨g', ⟨c', rfl⟩, hg', kq, kV, hgb', k7⟩, weakS_vk kV (by simp -dsimp -implicitDefEqProofs (disch := omega) [go_sem, -List.getD_eq_getElem?_getD, ite_yes, k0, k1, k2, k3, k4, k5, k6, k7])⟩
          · simp -dsimp -implicitDefEqProofs (disch := omega) [go_sem, -List.getD_eq_getElem?_getD, ite_yes, hlti, hlt, c1, hlen, hlen0, cnet, gut, hfa]
            first | refine AAt.of (by first | exact SubH.refl | exact SubH.app | exact (KQ.app.trans hQ').sub) ?_ | (refine ⟨?_, AAt.of (by first | exact SubH.refl | exact SubH.app | exact (KQ.app.trans hQ').sub) ?_⟩; · omega)
            refine AAny.one 6 0 (by kernel_rfl) (by kernel_rfl) (by kernel_rfl) ?_
            simp -dsimp -implicitDefEqProofs (disch := omega) [go_sem, -List.getD_eq_getElem?_getD, ite_yes, hlti, hlt, c1, hlen, hlen0, cnet, gut, hfa]
            first | refine AAt.of (by first | exact SubH.refl | exact SubH.app | exact (KQ.app.trans hQ').sub) ?_ | (refine ⟨?_, AAt.of (by first | exact SubH.refl | exact SubH.app | exact (KQ.app.trans hQ').sub) ?_⟩; · omega)
            refine AAny.one 5 13 (by kernel_rfl) (by kernel_rfl) (by kernel_rfl) ?_
            simp -dsimp -implicitDefEqProofs (disch := omega) [go_sem, -List.getD_eq_getElem?_getD, ite_yes, hlti, hlt, c1, hlen, hlen0, cnet, gut, hfa]
            refine ACall.via (rE h1 _ (G.length + 2) _ gP.app gS.app gC.app ((Heap.get_len_add _ _ 2).trans (by rw [eap]; rfl)) (by have := hQ.1; omega) (by have := hQ.1; simp; omega)) ?_
            rintro v G' ⟨g', c', rfl, hg', hV', hQ', hgb'⟩
            simp -dsimp -implicitDefEqProofs (disch := omega) [go_sem, -List.getD_eq_getElem?_getD, ite_yes, hlti, hlt, c1, hlen, hlen0, cnet, gut, hfa]
            first | refine AAt.of (by first | exact SubH.refl | exact SubH.app | exact (KQ.app.trans hQ').sub) ?_ | (refine ⟨?_, AAt.of (by first | exact SubH.refl | exact SubH.app | exact (KQ.app.trans hQ').sub) ?_⟩; · omega)
            refine AAny.takes (fuel := 0) (by kernel_rfl) (by kernel_rfl) [14, 15, 16, 17, 18] (by kernel_rfl) (by kernel_rfl) ?_
            simp -dsimp -implicitDefEqProofs (disch := omega) [go_sem, -List.getD_eq_getElem?_getD, ite_yes, hlti, hlt, c1, hlen, hlen0, cnet, gut, hfa]
            refine AAny.done (by kernel_rfl) ?_
            simp -dsimp -implicitDefEqProofs (disch := omega) [go_sem, -List.getD_eq_getElem?_getD, ite_yes, hlti, hlt, c1, hlen, hlen0, cnet, gut, hfa]
            have kq := KQ.app.trans hQ'
            have kV := (hV.trans (VK.app (flat3 (by first | exact trivial | exact (rfl : ([Value.int .i64 id] : List Value).all flat = true) | exact nmE_flat _ | exact eap ▸ nmE_flat _) (by first | exact trivial | exact (rfl : ([Value.int .i64 id] : List Value).all flat = true) | exact nmE_flat _ | exact eap ▸ nmE_flat _) (by first | exact trivial | exact (rfl : ([Value.int .i64 id] : List Value).all flat = true) | exact nmE_flat _ | exact eap ▸ nmE_flat _)))).trans hV'
            have k1 := Nat.lt_of_lt_of_le gtp kq.1
            have k2 := Nat.lt_of_lt_of_le gtv kq.1
            have k3 := Nat.lt_of_lt_of_le gtw kq.1
            have k4 := Nat.lt_of_lt_of_le gut kq.1
            have k5 := Nat.lt_of_lt_of_le ggt kq.1
            have k6 := Nat.lt_of_lt_of_le hlen kq.1
            have k7 := Heap.get_lt hg'
            have k0 : K.length < G'.length := by omega
            exact ⟨_, G', ⟨g', ⟨c', rfl⟩, hg', kq, kV, hgb', k7⟩, weakS_vk kV (by simp -dsimp -implicitDefEqProofs (disch := omega) [go_sem, -List.getD_eq_getElem?_getD, ite_yes, k0, k1, k2, k3, k4, k5, k6, k7])⟩
    rintro fr1 G' ⟨g', c', rfl, hg', kq, kV, hgb', k7⟩
    have k1 := Nat.lt_of_lt_of_le gtp kq.1
    have k2 := Nat.lt_of_lt_of_le gtv kq.1
    have k3 := Nat.lt_of_lt_of_le gtw kq.1
    have k4 := Nat.lt_of_lt_of_le gut kq.1
    have k5 := Nat.lt_of_lt_of_le ggt kq.1
    have k6 := Nat.lt_of_lt_of_le hlen kq.1
    have k0 : K.length < G'.length := by omega
    by_cases h3 : 0 ≤ r.2
    rotate_left
    · rw [if_neg (fun h => h3 h.1)] at e
      simp -dsimp -implicitDefEqProofs (disch := omega) [go_sem, -List.getD_eq_getElem?_getD, ite_yes, h3]
      exact LoopEnd.of (k + 1, g, c, G') ⟨by omega, kV, hQ.trans kq, kq.cells (by omega) cnet, kq.sl cids, k6, hgb, by rw [e]; exact kq.get hgg⟩ (by omega) (weakS_vk kV (by simp -dsimp -implicitDefEqProofs (disch := omega) [go_sem, -List.getD_eq_getElem?_getD, ite_yes, k0, k1, k2, k3, k4, k5, k6, k7, e]))
    by_cases h4 : R.2 < 0
    · rw [if_pos ⟨h3, .inl h4⟩] at e
      simp -dsimp -implicitDefEqProofs (disch := omega) [go_sem, -List.getD_eq_getElem?_getD, ite_yes, h3, h4]
      exact LoopEnd.of (k + 1, g', c', G') ⟨by omega, kV, hQ.trans kq, kq.cells (by omega) cnet, kq.sl cids, k6, hgb', by rw [e]; exact hg'⟩ (by omega) (weakS_vk kV (by simp -dsimp -implicitDefEqProofs (disch := omega) [go_sem, -List.getD_eq_getElem?_getD, ite_yes, k0, k1, k2, k3, k4, k5, k6, k7, e]))
    by_cases h5 : r.2 < R.2
    · rw [if_pos ⟨h3, .inr h5⟩] at e
      simp -dsimp -implicitDefEqProofs (disch := omega) [go_sem, -List.getD_eq_getElem?_getD, ite_yes, h3, h4, h5]
      exact LoopEnd.of (k + 1, g', c', G') ⟨by omega, kV, hQ.trans kq, kq.cells (by omega) cnet, kq.sl cids, k6, hgb', by rw [e]; exact hg'⟩ (by omega) (weakS_vk kV (by simp -dsimp -implicitDefEqProofs (disch := omega) [go_sem, -List.getD_eq_getElem?_getD, ite_yes, k0, k1, k2, k3, k4, k5, k6, k7, e]))
    · rw [if_neg (fun h => h.2.elim h4 h5)] at e
      simp -dsimp -implicitDefEqProofs (disch := omega) [go_sem, -List.getD_eq_getElem?_getD, ite_yes, h3, h4, h5]
      exact LoopEnd.of (k + 1, g, c, G') ⟨by omega, kV, hQ.trans kq, kq.cells (by omega) cnet, kq.sl cids, k6, hgb, by rw [e]; exact kq.get hgg⟩ (by omega) (weakS_vk kV (by simp -dsimp -implicitDefEqProofs (disch := omega) [go_sem, -List.getD_eq_getElem?_getD, ite_yes, k0, k1, k2, k3, k4, k5, k6, k7, e]))
end Go.Proofs.Ytaehphcaiabdmaa
