/- The best order: the program's search, the walk. -/
import Derived.Test.YtaehphcaiabdmaaBest
import Derived.Test.YtaehphcaiabdmaaAm17
namespace Go.Proofs.Ytaehphcaiabdmaa
open Go.Am
set_option linter.unusedVariables false
set_option linter.unusedSimpArgs false
set_option maxRecDepth 100000
set_option maxHeartbeats 4000000

/-- where the search's variables lie -/
structure VT where
  a1 : Nat
  a2 : Nat
  a3 : Nat
  a4 : Nat
  a5 : Nat
  a6 : Nat
  a7 : Nat
  a8 : Nat
  a9 : Nat
  ti : Nat
  tp : Nat
  tv : Nat
  tw : Nat
  cp : Nat
  cv : Nat
  cw : Nat
  gch : Nat
  capc : Array Value
def VT.caps (T : VT) : List Value := [.pointer (some ⟨T.a1, 0, none⟩), .pointer (some ⟨T.a2, 0, none⟩), .pointer (some ⟨T.a3, 0, none⟩), .pointer (some ⟨T.a4, 0, none⟩), .pointer (some ⟨T.a5, 0, none⟩), .pointer (some ⟨T.a6, 0, none⟩), .pointer (some ⟨T.a7, 0, none⟩), .pointer (some ⟨T.a8, 0, none⟩), .pointer (some ⟨T.a9, 0, none⟩)]
/-- the two variables that are written lie apart from all others -/
def VT.apart (T : VT) : Prop := T.a8 ≠ T.a9 ∧ ∀ t ∈ [T.a1, T.a2, T.a3, T.a4, T.a5, T.a6, T.a7, T.ti, T.tp, T.tv, T.tw], t ≠ T.a8 ∧ t ≠ T.a9
structure VEnv (n : Int) (ps : List Pp) (l : List Vl) (src : Int) (cu : List Int) (T : VT) (Pre : Heap → Prop) (K : Heap) : Prop where
  v1 : aCells K ⟨T.a1, 0, none⟩ 1 = some [.slice (some ⟨T.ti, 0, none⟩) (shutL l).length 0]
  v2 : aCells K ⟨T.a2, 0, none⟩ 1 = some [.func (.func 86) #[] T.caps.toArray]
  v3 : aCells K ⟨T.a3, 0, none⟩ 1 = some [.func (.func T.gch) #[] T.capc]
  v4 : aCells K ⟨T.a4, 0, none⟩ 2 = some [.int .i64 n, .slice (some ⟨T.tp, 0, none⟩) ps.length T.cp]
  v5 : aCells K ⟨T.a5, 0, none⟩ 1 = some [.slice (some ⟨T.tv, 0, none⟩) l.length T.cv]
  v6 : aCells K ⟨T.a6, 0, none⟩ 1 = some [.int .i64 src]
  v7 : aCells K ⟨T.a7, 0, none⟩ 1 = some [.slice (some ⟨T.tw, 0, none⟩) cu.length T.cw]
  s1 : Sl nmE K T.ti (shutL l)
  s4 : Sl ppE K T.tp ps
  s5 : Sl vlE K T.tv l
  s7 : Sl nmE K T.tw cu
  l1 : T.a1 < K.length
  l2 : T.a2 < K.length
  l3 : T.a3 < K.length
  l4 : T.a4 < K.length
  l5 : T.a5 < K.length
  l6 : T.a6 < K.length
  l7 : T.a7 < K.length
  l8 : T.a8 < K.length
  l9 : T.a9 < K.length
  cc : L2 (WMP (sg K.length []) K.length) T.capc.toList T.capc.toList
  pre : Pre K
theorem VEnv.kp {n : Int} {ps : List Pp} {l : List Vl} {src : Int} {cu : List Int} {T : VT} {Pre : Heap → Prop} (hap : T.apart) (hpre : ∀ K G, Pre K → Kp T.a8 T.a9 K G → Pre G) {K G : Heap} (h : VEnv n ps l src cu T Pre K) (k : Kp T.a8 T.a9 K G) : VEnv n ps l src cu T Pre G := by
  have hne := fun t ht => hap.2 t ht
  simp only [List.mem_cons, List.not_mem_nil, or_false] at hne
  have q := fun t ht => (hne t ht).1
  have r := fun t ht => (hne t ht).2
  refine ⟨k.cells h.l1 (q _ (by simp)) (r _ (by simp)) h.v1, k.cells h.l2 (q _ (by simp)) (r _ (by simp)) h.v2, k.cells h.l3 (q _ (by simp)) (r _ (by simp)) h.v3, k.cells h.l4 (q _ (by simp)) (r _ (by simp)) h.v4, k.cells h.l5 (q _ (by simp)) (r _ (by simp)) h.v5, k.cells h.l6 (q _ (by simp)) (r _ (by simp)) h.v6, k.cells h.l7 (q _ (by simp)) (r _ (by simp)) h.v7,
    k.sl h.s1 (q _ (by simp)) (r _ (by simp)), k.sl h.s4 (q _ (by simp)) (r _ (by simp)), k.sl h.s5 (q _ (by simp)) (r _ (by simp)), k.sl h.s7 (q _ (by simp)) (r _ (by simp)), ?_, ?_, ?_, ?_, ?_, ?_, ?_, ?_, ?_, ?_, hpre K G h.pre k⟩
  · have := h.l1; have := k.1; omega
  · have := h.l2; have := k.1; omega
  · have := h.l3; have := k.1; omega
  · have := h.l4; have := k.1; omega
  · have := h.l5; have := k.1; omega
  · have := h.l6; have := k.1; omega
  · have := h.l7; have := k.1; omega
  · have := h.l8; have := k.1; omega
  · have := h.l9; have := k.1; omega
  · exact h.cc.mono fun x y => wmp_mono k.1
/-- what the two variables hold; b0: the blocks from there on were made by the search -/
structure VCel (T : VT) (b0 : Nat) (s : Bst) (K : Heap) : Prop where
  c8 : K.get T.a8 = some ⟨[.int .i64 s.2], true, 3, 1⟩
  c9 : ∃ g c, K.get T.a9 = some ⟨[.slice (some ⟨g, 0, none⟩) s.1.length c], true, 28, 1⟩ ∧ K.get g = some ⟨s.1.flatMap nmE, true, 3, 1⟩ ∧ g ≠ T.a8 ∧ g ≠ T.a9 ∧ b0 ≤ g
theorem VCel.kp {T : VT} {b0 : Nat} {s : Bst} {K L : Heap} (h : VCel T b0 s K) : VCel T b0 s (K ++ L) := by
  obtain ⟨g, c, h1, h2, h3⟩ := h.c9
  exact ⟨Heap.get_of h.c8, g, c, Heap.get_of h1, Heap.get_of h2, h3⟩
/-- what a call of the search hands out -/
def VOut (n : Int) (ps : List Pp) (l : List Vl) (src : Int) (cu : List Int) (T : VT) (Pre : Heap → Prop) (b0 : Nat) (K : Heap) (s : Bst) (v : Value) (G : Heap) : Prop :=
  v = .tuple #[] ∧ VEnv n ps l src cu T Pre G ∧ VCel T b0 s G ∧ VK K G ∧ Kp T.a8 T.a9 K G
theorem visit_R (n : Int) (ps : List Pp) (l : List Vl) (src : Int) (cu : List Int) (hq : askR n ps l src = true) (hcu : custOk n cu = true) (T : VT) (hap : T.apart) (Pre : Heap → Prop) (hpre : ∀ K G, Pre K → Kp T.a8 T.a9 K G → Pre G) (ch : List Int → Bool)
    (hch : ∀ G, Pre G → ∀ (a : List Int) (u d : Nat), Sl nmE G u a → ordB l a = true → AFunC Try.prog T.gch (.slice (some ⟨u, 0, none⟩) a.length d :: T.capc.toList) G (.bool (ch a)) G) (b0 : Nat) :
    ∀ (f : Nat) (a : List Int) (s : Bst) (d u : Nat) (K : Heap), GoodA (shutL l) a → (shutL l).length - a.length < f → VEnv n ps l src cu T Pre K → VCel T b0 s K → K.get u = some ⟨a.flatMap nmE, true, 3, 1⟩ → u ≠ T.a8 → u ≠ T.a9 → b0 ≤ u → b0 ≤ K.length →
    AFunR Try.prog 86 (.slice (some ⟨u, 0, none⟩) a.length d :: T.caps) K (VOut n ps l src cu T Pre b0 K (visN (shutL l) ch (fun a => waitN n ps l src a cu) f a s))
  | 0, a, s, d, u, K, hg, hf, hE, hC, hu, hu8, hu9, hub, hkb => absurd hf (Nat.not_lt_zero _)
  | f + 1, a, s, d, u, K, hg, hf, hE, hC, hu, hu8, hu9, hub, hkb => by
    have hle := hg.le
    obtain ⟨hgv, hN, hl10, hsrc, hs6⟩ := askR_at hq
    have hut := Heap.get_lt hu
    have hal : a.length ≤ 6 := by omega
    simp only [VT.caps]
    refine AFunR.of_body Try.func86 (by kernel_rfl) rfl (by kernel_rfl) (by simp [Try.ntmps86]) ?_
    have q1 := hE.v1
    have l1 := hE.l1
    have l2 := hE.l2
    have l3 := hE.l3
    have l4 := hE.l4
    have l5 := hE.l5
    have l6 := hE.l6
    have l7 := hE.l7
    have l8 := hE.l8
    have l9 := hE.l9
    have lti := hE.s1.lt
    simp -dsimp -implicitDefEqProofs (disch := omega) [go_sem, -List.getD_eq_getElem?_getD, ite_yes, q1, l1]
    refine ALoop.intro (ι := Nat × Heap) (fun q => q.1 ≤ (shutL l).length ∧ VEnv n ps l src cu T Pre q.2 ∧ VCel T b0 (visTo (visN (shutL l) ch (fun a => waitN n ps l src a cu) f) (shutL l) a s q.1) q.2 ∧ VK K q.2 ∧ Kp T.a8 T.a9 K q.2)
      (fun q => [(0, .slice (some ⟨u, 0, none⟩) a.length d), (1, .pointer (some ⟨T.a1, 0, none⟩)), (2, .pointer (some ⟨T.a2, 0, none⟩)), (3, .pointer (some ⟨T.a3, 0, none⟩)), (4, .pointer (some ⟨T.a4, 0, none⟩)), (5, .pointer (some ⟨T.a5, 0, none⟩)), (6, .pointer (some ⟨T.a6, 0, none⟩)), (7, .pointer (some ⟨T.a7, 0, none⟩)), (8, .pointer (some ⟨T.a8, 0, none⟩)), (9, .pointer (some ⟨T.a9, 0, none⟩)), (14, .slice (some ⟨T.ti, 0, none⟩) (shutL l).length 0), (15, .int .i64 (shutL l).length), (16, .int .i64 q.1)]) (fun q => q.2) (fun q => (shutL l).length - q.1) (0, K) ⟨by omega, hE, hC, VK.refl K, Kp.refl K⟩ ?_ ?_
    · exact weakS_same (by simp -dsimp -implicitDefEqProofs (disch := omega) [go_sem, -List.getD_eq_getElem?_getD, ite_yes, l1, l2, l3, l4, l5, l6, l7, l8, l9, lti, hut])
    clear q1 l1 l2 l3 l4 l5 l6 l7 l8 l9 lti
    rintro ⟨k, G⟩ ⟨hk, hE, hC, hV, hP⟩
    simp only at hk hE hC hV hP ⊢
    have l1 := hE.l1
    have l2 := hE.l2
    have l3 := hE.l3
    have l4 := hE.l4
    have l5 := hE.l5
    have l6 := hE.l6
    have l7 := hE.l7
    have l8 := hE.l8
    have l9 := hE.l9
    have lti := hE.s1.lt
    have hGu := hP.get hu hu8 hu9
    have hutG := Heap.get_lt hGu
    have hSu : Sl nmE G u a := ⟨_, [], hGu, by simp⟩
    have hkG : b0 ≤ G.length := by have := hP.1; omega
    by_cases hlt : k < (shutL l).length
    · have c1 := hE.s1.one (g := fun n => Value.int .i64 n) 0 k hlt
      have e : visTo (visN (shutL l) ch (fun a => waitN n ps l src a cu) f) (shutL l) a s (k + 1) = if hasI a ((shutL l).getD k 0) then visTo (visN (shutL l) ch (fun a => waitN n ps l src a cu) f) (shutL l) a s k else visN (shutL l) ch (fun a => waitN n ps l src a cu) f (a ++ [(shutL l).getD k 0]) (visTo (visN (shutL l) ch (fun a => waitN n ps l src a cu) f) (shutL l) a s k) := rfl
      simp -dsimp -implicitDefEqProofs (disch := omega) [go_sem, -List.getD_eq_getElem?_getD, ite_yes, hlt, c1, lti]
      refine ACall.of (containsNm_A a ((shutL l).getD k 0) (by omega) d _ u 0 (IdS.of hSu)) ?_
      cases h1 : hasI a ((shutL l).getD k 0)
      rotate_left
      · rw [h1, if_pos rfl] at e
        simp -dsimp -implicitDefEqProofs (disch := omega) [go_sem, -List.getD_eq_getElem?_getD, ite_yes]
        exact LoopEnd.of (k + 1, G) ⟨by omega, hE, by rw [e]; exact hC, hV, hP⟩ (by omega) (weakS_vk hV (by simp -dsimp -implicitDefEqProofs (disch := omega) [go_sem, -List.getD_eq_getElem?_getD, ite_yes, l1, l2, l3, l4, l5, l6, l7, l8, l9, lti, hutG]))
      have hgood := hg.snoc hlt h1
      have hle2 := hgood.le
      rw [List.length_append, List.length_singleton] at hle2
      rw [h1, if_neg (by simp)] at e
      have rE : ∀ (s' : Bst) (d' u' : Nat) (G' : Heap), VEnv n ps l src cu T Pre G' → VCel T b0 s' G' → G'.get u' = some ⟨(a ++ [(shutL l).getD k 0]).flatMap nmE, true, 3, 1⟩ → u' ≠ T.a8 → u' ≠ T.a9 → b0 ≤ u' → b0 ≤ G'.length →
          AFunR Try.prog 86 (.slice (some ⟨u', 0, none⟩) (a.length + 1) d' :: T.caps) G' (VOut n ps l src cu T Pre b0 G' (visN (shutL l) ch (fun a => waitN n ps l src a cu) f (a ++ [(shutL l).getD k 0]) s')) := by
        intro s' d' u' G' h2 h3 h4 h5 h6 h7 h8
        have := visit_R n ps l src cu hq hcu T hap Pre hpre ch hch b0 f (a ++ [(shutL l).getD k 0]) s' d' u' G' hgood (by rw [List.length_append, List.length_singleton]; omega) h2 h3 h4 h5 h6 h7 h8
        rwa [List.length_append, List.length_singleton] at this
      generalize hs' : visTo (visN (shutL l) ch (fun a => waitN n ps l src a cu) f) (shutL l) a s k = s' at *
      have q2 := hE.v2
      simp only [VT.caps] at q2 rE
      have eap : (a ++ [(shutL l).getD k 0]).flatMap nmE = a.flatMap nmE ++ [.int .i64 ((shutL l).getD k 0)] := by rw [List.flatMap_append]; rfl
      have hfa : (a.flatMap nmE).length = a.length := by rw [nmE_length]; omega
      generalize (shutL l).getD k 0 = id at *
      simp -dsimp -implicitDefEqProofs (disch := omega) [go_sem, -List.getD_eq_getElem?_getD, ite_yes]
      refine ADraw.any [] (by kernel_rfl) (SubH.nil) ?_
      refine AAny.takes (fuel := 5) (by kernel_rfl) (by kernel_rfl) [1, 3] (by kernel_rfl) (by kernel_rfl) ?_
      simp -dsimp -implicitDefEqProofs (disch := omega) [go_sem, -List.getD_eq_getElem?_getD, ite_yes, q2, l2, hutG, hfa]
      refine AAny.three 4 0 2 4 (by kernel_rfl) (by kernel_rfl) (by kernel_rfl) ?_ ?_ ?_
      · simp -dsimp -implicitDefEqProofs (disch := omega) [go_sem, -List.getD_eq_getElem?_getD, ite_yes, q2, l2, hutG, hfa]
        first | refine AAt.of (SubH.nil) ?_ | (refine ⟨?_, AAt.of (SubH.nil) ?_⟩; · omega)
        refine AAny.two 3 2 4 (by kernel_rfl) (by kernel_rfl) (by kernel_rfl) ?_ ?_
        · simp -dsimp -implicitDefEqProofs (disch := omega) [go_sem, -List.getD_eq_getElem?_getD, ite_yes, q2, l2, hutG, hfa]
          first | refine ACall.of (copyInts_A a (by omega) d _ u hSu) ?_ | refine ACall.of (copyInts_A a (by omega) d _ u hSu.app) ?_
          simp -dsimp -implicitDefEqProofs (disch := omega) [go_sem, -List.getD_eq_getElem?_getD, ite_yes, q2, l2, hutG, hfa]
          first | refine AAt.of (SubH.nil) ?_ | (refine ⟨?_, AAt.of (SubH.nil) ?_⟩; · omega)
          refine AAny.one 2 4 (by kernel_rfl) (by kernel_rfl) (by kernel_rfl) ?_
          simp -dsimp -implicitDefEqProofs (disch := omega) [go_sem, -List.getD_eq_getElem?_getD, ite_yes, q2, l2, hutG, hfa]
          first | refine AAt.of (SubH.nil) ?_ | (refine ⟨?_, AAt.of (SubH.nil) ?_⟩; · omega)
          refine AAny.one 1 5 (by kernel_rfl) (by kernel_rfl) (by kernel_rfl) ?_
          simp -dsimp -implicitDefEqProofs (disch := omega) [go_sem, -List.getD_eq_getElem?_getD, ite_yes, q2, l2, hutG, hfa]
          first | refine AAt.of (SubH.nil) ?_ | (refine ⟨?_, AAt.of (SubH.nil) ?_⟩; · omega)
          refine AAny.one 0 6 (by kernel_rfl) (by kernel_rfl) (by kernel_rfl) ?_
          simp -dsimp -implicitDefEqProofs (disch := omega) [go_sem, -List.getD_eq_getElem?_getD, ite_yes, q2, l2, hutG, hfa]
          refine ACall.via (rE s' _ (G.length + 2) _ (hE.kp hap hpre Kp.app) hC.kp ((Heap.get_len_add _ _ 2).trans (by rw [eap]; rfl)) (by omega) (by omega) (by omega) (by simp; omega)) ?_
          rintro v G' ⟨rfl, hE', hC', hV', hP'⟩
          simp -dsimp -implicitDefEqProofs (disch := omega) [go_sem, -List.getD_eq_getElem?_getD, ite_yes, q2, l2, hutG, hfa]
          first | refine AAt.of (SubH.nil) ?_ | (refine ⟨?_, AAt.of (SubH.nil) ?_⟩; · omega)
          refine AAny.done (by kernel_rfl) ?_
          simp -dsimp -implicitDefEqProofs (disch := omega) [go_sem, -List.getD_eq_getElem?_getD, ite_yes, q2, l2, hutG, hfa]
          have k1 := hE'.l1
          have k2 := hE'.l2
          have k3 := hE'.l3
          have k4 := hE'.l4
          have k5 := hE'.l5
          have k6 := hE'.l6
          have k7 := hE'.l7
          have k8 := hE'.l8
          have k9 := hE'.l9
          have kti := hE'.s1.lt
          have kP := (hP.trans Kp.app).trans hP'
          have ku : u < G'.length := Nat.lt_of_lt_of_le hut kP.1
          have kV := (hV.trans (VK.app (flat3 (by first | exact trivial | exact (rfl : ([Value.int .i64 id] : List Value).all flat = true) | exact nmE_flat _ | exact eap ▸ nmE_flat _) (by first | exact trivial | exact (rfl : ([Value.int .i64 id] : List Value).all flat = true) | exact nmE_flat _ | exact eap ▸ nmE_flat _) (by first | exact trivial | exact (rfl : ([Value.int .i64 id] : List Value).all flat = true) | exact nmE_flat _ | exact eap ▸ nmE_flat _)))).trans hV'
          exact LoopEnd.of (k + 1, G') ⟨by omega, hE', by rw [e]; exact hC', kV, kP⟩ (by omega) (weakS_vk kV (by simp -dsimp -implicitDefEqProofs (disch := omega) [go_sem, -List.getD_eq_getElem?_getD, ite_yes, k1, k2, k3, k4, k5, k6, k7, k8, k9, kti, ku]))
        · simp -dsimp -implicitDefEqProofs (disch := omega) [go_sem, -List.getD_eq_getElem?_getD, ite_yes, q2, l2, hutG, hfa]
          first | refine AAt.of (SubH.nil) ?_ | (refine ⟨?_, AAt.of (SubH.nil) ?_⟩; · omega)
          refine AAny.one 2 2 (by kernel_rfl) (by kernel_rfl) (by kernel_rfl) ?_
          simp -dsimp -implicitDefEqProofs (disch := omega) [go_sem, -List.getD_eq_getElem?_getD, ite_yes, q2, l2, hutG, hfa]
          first | refine ACall.of (copyInts_A a (by omega) d _ u hSu) ?_ | refine ACall.of (copyInts_A a (by omega) d _ u hSu.app) ?_
          simp -dsimp -implicitDefEqProofs (disch := omega) [go_sem, -List.getD_eq_getElem?_getD, ite_yes, q2, l2, hutG, hfa]
          first | refine AAt.of (SubH.nil) ?_ | (refine ⟨?_, AAt.of (SubH.nil) ?_⟩; · omega)
          refine AAny.one 1 5 (by kernel_rfl) (by kernel_rfl) (by kernel_rfl) ?_
          simp -dsimp -implicitDefEqProofs (disch := omega) [go_sem, -List.getD_eq_getElem?_getD, ite_yes, q2, l2, hutG, hfa]
          first | refine AAt.of (SubH.nil) ?_ | (refine ⟨?_, AAt.of (SubH.nil) ?_⟩; · omega)
          refine AAny.one 0 6 (by kernel_rfl) (by kernel_rfl) (by kernel_rfl) ?_
          simp -dsimp -implicitDefEqProofs (disch := omega) [go_sem, -List.getD_eq_getElem?_getD, ite_yes, q2, l2, hutG, hfa]
          refine ACall.via (rE s' _ (G.length + 2) _ (hE.kp hap hpre Kp.app) hC.kp ((Heap.get_len_add _ _ 2).trans (by rw [eap]; rfl)) (by omega) (by omega) (by omega) (by simp; omega)) ?_
          rintro v G' ⟨rfl, hE', hC', hV', hP'⟩
          simp -dsimp -implicitDefEqProofs (disch := omega) [go_sem, -List.getD_eq_getElem?_getD, ite_yes, q2, l2, hutG, hfa]
          first | refine AAt.of (SubH.nil) ?_ | (refine ⟨?_, AAt.of (SubH.nil) ?_⟩; · omega)
          refine AAny.done (by kernel_rfl) ?_
          simp -dsimp -implicitDefEqProofs (disch := omega) [go_sem, -List.getD_eq_getElem?_getD, ite_yes, q2, l2, hutG, hfa]
          have k1 := hE'.l1
          have k2 := hE'.l2
          have k3 := hE'.l3
          have k4 := hE'.l4
          have k5 := hE'.l5
          have k6 := hE'.l6
          have k7 := hE'.l7
          have k8 := hE'.l8
          have k9 := hE'.l9
          have kti := hE'.s1.lt
          have kP := (hP.trans Kp.app).trans hP'
          have ku : u < G'.length := Nat.lt_of_lt_of_le hut kP.1
          have kV := (hV.trans (VK.app (flat3 (by first | exact trivial | exact (rfl : ([Value.int .i64 id] : List Value).all flat = true) | exact nmE_flat _ | exact eap ▸ nmE_flat _) (by first | exact trivial | exact (rfl : ([Value.int .i64 id] : List Value).all flat = true) | exact nmE_flat _ | exact eap ▸ nmE_flat _) (by first | exact trivial | exact (rfl : ([Value.int .i64 id] : List Value).all flat = true) | exact nmE_flat _ | exact eap ▸ nmE_flat _)))).trans hV'
          exact LoopEnd.of (k + 1, G') ⟨by omega, hE', by rw [e]; exact hC', kV, kP⟩ (by omega) (weakS_vk kV (by simp -dsimp -implicitDefEqProofs (disch := omega) [go_sem, -List.getD_eq_getElem?_getD, ite_yes, k1, k2, k3, k4, k5, k6, k7, k8, k9, kti, ku]))
      · simp -dsimp -implicitDefEqProofs (disch := omega) [go_sem, -List.getD_eq_getElem?_getD, ite_yes, q2, l2, hutG, hfa]
        first | refine ACall.of (copyInts_A a (by omega) d _ u hSu) ?_ | refine ACall.of (copyInts_A a (by omega) d _ u hSu.app) ?_
        simp -dsimp -implicitDefEqProofs (disch := omega) [go_sem, -List.getD_eq_getElem?_getD, ite_yes, q2, l2, hutG, hfa]
        first | refine AAt.of (SubH.nil) ?_ | (refine ⟨?_, AAt.of (SubH.nil) ?_⟩; · omega)
        refine AAny.two 3 0 4 (by kernel_rfl) (by kernel_rfl) (by kernel_rfl) ?_ ?_
        · simp -dsimp -implicitDefEqProofs (disch := omega) [go_sem, -List.getD_eq_getElem?_getD, ite_yes, q2, l2, hutG, hfa]
          first | refine AAt.of (SubH.nil) ?_ | (refine ⟨?_, AAt.of (SubH.nil) ?_⟩; · omega)
          refine AAny.one 2 4 (by kernel_rfl) (by kernel_rfl) (by kernel_rfl) ?_
          simp -dsimp -implicitDefEqProofs (disch := omega) [go_sem, -List.getD_eq_getElem?_getD, ite_yes, q2, l2, hutG, hfa]
          first | refine AAt.of (SubH.nil) ?_ | (refine ⟨?_, AAt.of (SubH.nil) ?_⟩; · omega)
          refine AAny.one 1 5 (by kernel_rfl) (by kernel_rfl) (by kernel_rfl) ?_
          simp -dsimp -implicitDefEqProofs (disch := omega) [go_sem, -List.getD_eq_getElem?_getD, ite_yes, q2, l2, hutG, hfa]
          first | refine AAt.of (SubH.nil) ?_ | (refine ⟨?_, AAt.of (SubH.nil) ?_⟩; · omega)
          refine AAny.one 0 6 (by kernel_rfl) (by kernel_rfl) (by kernel_rfl) ?_
          simp -dsimp -implicitDefEqProofs (disch := omega) [go_sem, -List.getD_eq_getElem?_getD, ite_yes, q2, l2, hutG, hfa]
          refine ACall.via (rE s' _ (G.length + 2) _ (hE.kp hap hpre Kp.app) hC.kp ((Heap.get_len_add _ _ 2).trans (by rw [eap]; rfl)) (by omega) (by omega) (by omega) (by simp; omega)) ?_
          rintro v G' ⟨rfl, hE', hC', hV', hP'⟩
          simp -dsimp -implicitDefEqProofs (disch := omega) [go_sem, -List.getD_eq_getElem?_getD, ite_yes, q2, l2, hutG, hfa]
          first | refine AAt.of (SubH.nil) ?_ | (refine ⟨?_, AAt.of (SubH.nil) ?_⟩; · omega)
          refine AAny.done (by kernel_rfl) ?_
          simp -dsimp -implicitDefEqProofs (disch := omega) [go_sem, -List.getD_eq_getElem?_getD, ite_yes, q2, l2, hutG, hfa]
          have k1 := hE'.l1
          have k2 := hE'.l2
          have k3 := hE'.l3
          have k4 := hE'.l4
          have k5 := hE'.l5
          have k6 := hE'.l6
          have k7 := hE'.l7
          have k8 := hE'.l8
          have k9 := hE'.l9
          have kti := hE'.s1.lt
          have kP := (hP.trans Kp.app).trans hP'
          have ku : u < G'.length := Nat.lt_of_lt_of_le hut kP.1
          have kV := (hV.trans (VK.app (flat3 (by first | exact trivial | exact (rfl : ([Value.int .i64 id] : List Value).all flat = true) | exact nmE_flat _ | exact eap ▸ nmE_flat _) (by first | exact trivial | exact (rfl : ([Value.int .i64 id] : List Value).all flat = true) | exact nmE_flat _ | exact eap ▸ nmE_flat _) (by first | exact trivial | exact (rfl : ([Value.int .i64 id] : List Value).all flat = true) | exact nmE_flat _ | exact eap ▸ nmE_flat _)))).trans hV'
          exact LoopEnd.of (k + 1, G') ⟨by omega, hE', by rw [e]; exact hC', kV, kP⟩ (by omega) (weakS_vk kV (by simp -dsimp -implicitDefEqProofs (disch := omega) [go_sem, -List.getD_eq_getElem?_getD, ite_yes, k1, k2, k3, k4, k5, k6, k7, k8, k9, kti, ku]))
        · simp -dsimp -implicitDefEqProofs (disch := omega) [go_sem, -List.getD_eq_getElem?_getD, ite_yes, q2, l2, hutG, hfa]
          first | refine AAt.of (SubH.nil) ?_ | (refine ⟨?_, AAt.of (SubH.nil) ?_⟩; · omega)
          refine AAny.two 2 0 5 (by kernel_rfl) (by kernel_rfl) (by kernel_rfl) ?_ ?_
          · simp -dsimp -implicitDefEqProofs (disch := omega) [go_sem, -List.getD_eq_getElem?_getD, ite_yes, q2, l2, hutG, hfa]
            first | refine AAt.of (SubH.nil) ?_ | (refine ⟨?_, AAt.of (SubH.nil) ?_⟩; · omega)
            refine AAny.one 1 5 (by kernel_rfl) (by kernel_rfl) (by kernel_rfl) ?_
            simp -dsimp -implicitDefEqProofs (disch := omega) [go_sem, -List.getD_eq_getElem?_getD, ite_yes, q2, l2, hutG, hfa]
            first | refine AAt.of (SubH.nil) ?_ | (refine ⟨?_, AAt.of (SubH.nil) ?_⟩; · omega)
            refine AAny.one 0 6 (by kernel_rfl) (by kernel_rfl) (by kernel_rfl) ?_
            simp -dsimp -implicitDefEqProofs (disch := omega) [go_sem, -List.getD_eq_getElem?_getD, ite_yes, q2, l2, hutG, hfa]
            refine ACall.via (rE s' _ (G.length + 2) _ (hE.kp hap hpre Kp.app) hC.kp ((Heap.get_len_add _ _ 2).trans (by rw [eap]; rfl)) (by omega) (by omega) (by omega) (by simp; omega)) ?_
            rintro v G' ⟨rfl, hE', hC', hV', hP'⟩
            simp -dsimp -implicitDefEqProofs (disch := omega) [go_sem, -List.getD_eq_getElem?_getD, ite_yes, q2, l2, hutG, hfa]
            first | refine AAt.of (SubH.nil) ?_ | (refine ⟨?_, AAt.of (SubH.nil) ?_⟩; · omega)
            refine AAny.done (by kernel_rfl) ?_
            simp -dsimp -implicitDefEqProofs (disch := omega) [go_sem, -List.getD_eq_getElem?_getD, ite_yes, q2, l2, hutG, hfa]
            have k1 := hE'.l1
            have k2 := hE'.l2
            have k3 := hE'.l3
            have k4 := hE'.l4
            have k5 := hE'.l5
            have k6 := hE'.l6
            have k7 := hE'.l7
            have k8 := hE'.l8
            have k9 := hE'.l9
            have kti := hE'.s1.lt
            have kP := (hP.trans Kp.app).trans hP'
            have ku : u < G'.length := Nat.lt_of_lt_of_le hut kP.1
            have kV := (hV.trans (VK.app (flat3 (by first | exact trivial | exact (rfl : ([Value.int .i64 id] : List Value).all flat = true) | exact nmE_flat _ | exact eap ▸ nmE_flat _) (by first | exact trivial | exact (rfl : ([Value.int .i64 id] : List Value).all flat = true) | exact nmE_flat _ | exact eap ▸ nmE_flat _) (by first | exact trivial | exact (rfl : ([Value.int .i64 id] : List Value).all flat = true) | exact nmE_flat _ | exact eap ▸ nmE_flat _)))).trans hV'
            exact LoopEnd.of (k + 1, G') ⟨by omega, hE', by rw [e]; exact hC', kV, kP⟩ (by omega) (weakS_vk kV (by simp -dsimp -implicitDefEqProofs (disch := omega) [go_sem, -List.getD_eq_getElem?_getD, ite_yes, k1, k2, k3, k4, k5, k6, k7, k8, k9, kti, ku]))
          · simp -dsimp -implicitDefEqProofs (disch := omega) [go_sem, -List.getD_eq_getElem?_getD, ite_yes, q2, l2, hutG, hfa]
            first | refine AAt.of (SubH.nil) ?_ | (refine ⟨?_, AAt.of (SubH.nil) ?_⟩; · omega)
            refine AAny.one 1 0 (by kernel_rfl) (by kernel_rfl) (by kernel_rfl) ?_
            simp -dsimp -implicitDefEqProofs (disch := omega) [go_sem, -List.getD_eq_getElem?_getD, ite_yes, q2, l2, hutG, hfa]
            first | refine AAt.of (SubH.nil) ?_ | (refine ⟨?_, AAt.of (SubH.nil) ?_⟩; · omega)
            refine AAny.one 0 6 (by kernel_rfl) (by kernel_rfl) (by kernel_rfl) ?_
            simp -dsimp -implicitDefEqProofs (disch := omega) [go_sem, -List.getD_eq_getElem?_getD, ite_yes, q2, l2, hutG, hfa]
            refine ACall.via (rE s' _ (G.length + 2) _ (hE.kp hap hpre Kp.app) hC.kp ((Heap.get_len_add _ _ 2).trans (by rw [eap]; rfl)) (by omega) (by omega) (by omega) (by simp; omega)) ?_
            rintro v G' ⟨rfl, hE', hC', hV', hP'⟩
            simp -dsimp -implicitDefEqProofs (disch := omega) [go_sem, -List.getD_eq_getElem?_getD, ite_yes, q2, l2, hutG, hfa]
            first | refine AAt.of (SubH.nil) ?_ | (refine ⟨?_, AAt.of (SubH.nil) ?_⟩; · omega)
            refine AAny.done (by kernel_rfl) ?_
            simp -dsimp -implicitDefEqProofs (disch := omega) [go_sem, -List.getD_eq_getElem?_getD, ite_yes, q2, l2, hutG, hfa]
            have k1 := hE'.l1
            have k2 := hE'.l2
            have k3 := hE'.l3
            have k4 := hE'.l4
            have k5 := hE'.l5
            have k6 := hE'.l6
            have k7 := hE'.l7
            have k8 := hE'.l8
            have k9 := hE'.l9
            have kti := hE'.s1.lt
            have kP := (hP.trans Kp.app).trans hP'
            have ku : u < G'.length := Nat.lt_of_lt_of_le hut kP.1
            have kV := (hV.trans (VK.app (flat3 (by first | exact trivial | exact (rfl : ([Value.int .i64 id] : List Value).all flat = true) | exact nmE_flat _ | exact eap ▸ nmE_flat _) (by first | exact trivial | exact (rfl : ([Value.int .i64 id] : List Value).all flat = true) | exact nmE_flat _ | exact eap ▸ nmE_flat _) (by first | exact trivial | exact (rfl : ([Value.int .i64 id] : List Value).all flat = true) | exact nmE_flat _ | exact eap ▸ nmE_flat _)))).trans hV'
            exact LoopEnd.of (k + 1, G') ⟨by omega, hE', by rw [e]; exact hC', kV, kP⟩ (by omega) (weakS_vk kV (by simp -dsimp -implicitDefEqProofs (disch := omega) [go_sem, -List.getD_eq_getElem?_getD, ite_yes, k1, k2, k3, k4, k5, k6, k7, k8, k9, kti, ku]))
      · simp -dsimp -implicitDefEqProofs (disch := omega) [go_sem, -List.getD_eq_getElem?_getD, ite_yes, q2, l2, hutG, hfa]
        first | refine AAt.of (SubH.nil) ?_ | (refine ⟨?_, AAt.of (SubH.nil) ?_⟩; · omega)
        refine AAny.two 3 0 2 (by kernel_rfl) (by kernel_rfl) (by kernel_rfl) ?_ ?_
        · simp -dsimp -implicitDefEqProofs (disch := omega) [go_sem, -List.getD_eq_getElem?_getD, ite_yes, q2, l2, hutG, hfa]
          first | refine AAt.of (SubH.nil) ?_ | (refine ⟨?_, AAt.of (SubH.nil) ?_⟩; · omega)
          refine AAny.one 2 2 (by kernel_rfl) (by kernel_rfl) (by kernel_rfl) ?_
          simp -dsimp -implicitDefEqProofs (disch := omega) [go_sem, -List.getD_eq_getElem?_getD, ite_yes, q2, l2, hutG, hfa]
          first | refine ACall.of (copyInts_A a (by omega) d _ u hSu) ?_ | refine ACall.of (copyInts_A a (by omega) d _ u hSu.app) ?_
          simp -dsimp -implicitDefEqProofs (disch := omega) [go_sem, -List.getD_eq_getElem?_getD, ite_yes, q2, l2, hutG, hfa]
          first | refine AAt.of (SubH.nil) ?_ | (refine ⟨?_, AAt.of (SubH.nil) ?_⟩; · omega)
          refine AAny.one 1 5 (by kernel_rfl) (by kernel_rfl) (by kernel_rfl) ?_
          simp -dsimp -implicitDefEqProofs (disch := omega) [go_sem, -List.getD_eq_getElem?_getD, ite_yes, q2, l2, hutG, hfa]
          first | refine AAt.of (SubH.nil) ?_ | (refine ⟨?_, AAt.of (SubH.nil) ?_⟩; · omega)
          refine AAny.one 0 6 (by kernel_rfl) (by kernel_rfl) (by kernel_rfl) ?_
          simp -dsimp -implicitDefEqProofs (disch := omega) [go_sem, -List.getD_eq_getElem?_getD, ite_yes, q2, l2, hutG, hfa]
          refine ACall.via (rE s' _ (G.length + 2) _ (hE.kp hap hpre Kp.app) hC.kp ((Heap.get_len_add _ _ 2).trans (by rw [eap]; rfl)) (by omega) (by omega) (by omega) (by simp; omega)) ?_
          rintro v G' ⟨rfl, hE', hC', hV', hP'⟩
          simp -dsimp -implicitDefEqProofs (disch := omega) [go_sem, -List.getD_eq_getElem?_getD, ite_yes, q2, l2, hutG, hfa]
          first | refine AAt.of (SubH.nil) ?_ | (refine ⟨?_, AAt.of (SubH.nil) ?_⟩; · omega)
          refine AAny.done (by kernel_rfl) ?_
          simp -dsimp -implicitDefEqProofs (disch := omega) [go_sem, -List.getD_eq_getElem?_getD, ite_yes, q2, l2, hutG, hfa]
          have k1 := hE'.l1
          have k2 := hE'.l2
          have k3 := hE'.l3
          have k4 := hE'.l4
          have k5 := hE'.l5
          have k6 := hE'.l6
          have k7 := hE'.l7
          have k8 := hE'.l8
          have k9 := hE'.l9
          have kti := hE'.s1.lt
          have kP := (hP.trans Kp.app).trans hP'
          have ku : u < G'.length := Nat.lt_of_lt_of_le hut kP.1
          have kV := (hV.trans (VK.app (flat3 (by first | exact trivial | exact (rfl : ([Value.int .i64 id] : List Value).all flat = true) | exact nmE_flat _ | exact eap ▸ nmE_flat _) (by first | exact trivial | exact (rfl : ([Value.int .i64 id] : List Value).all flat = true) | exact nmE_flat _ | exact eap ▸ nmE_flat _) (by first | exact trivial | exact (rfl : ([Value.int .i64 id] : List Value).all flat = true) | exact nmE_flat _ | exact eap ▸ nmE_flat _)))).trans hV'
          exact LoopEnd.of (k + 1, G') ⟨by omega, hE', by rw [e]; exact hC', kV, kP⟩ (by omega) (weakS_vk kV (by simp -dsimp -implicitDefEqProofs (disch := omega) [go_sem, -List.getD_eq_getElem?_getD, ite_yes, k1, k2, k3, k4, k5, k6, k7, k8, k9, kti, ku]))
        · simp -dsimp -implicitDefEqProofs (disch := omega) [go_sem, -List.getD_eq_getElem?_getD, ite_yes, q2, l2, hutG, hfa]
          first | refine ACall.of (copyInts_A a (by omega) d _ u hSu) ?_ | refine ACall.of (copyInts_A a (by omega) d _ u hSu.app) ?_
          simp -dsimp -implicitDefEqProofs (disch := omega) [go_sem, -List.getD_eq_getElem?_getD, ite_yes, q2, l2, hutG, hfa]
          first | refine AAt.of (SubH.nil) ?_ | (refine ⟨?_, AAt.of (SubH.nil) ?_⟩; · omega)
          refine AAny.two 2 0 5 (by kernel_rfl) (by kernel_rfl) (by kernel_rfl) ?_ ?_
          · simp -dsimp -implicitDefEqProofs (disch := omega) [go_sem, -List.getD_eq_getElem?_getD, ite_yes, q2, l2, hutG, hfa]
            first | refine AAt.of (SubH.nil) ?_ | (refine ⟨?_, AAt.of (SubH.nil) ?_⟩; · omega)
            refine AAny.one 1 5 (by kernel_rfl) (by kernel_rfl) (by kernel_rfl) ?_
            simp -dsimp -implicitDefEqProofs (disch := omega) [go_sem, -List.getD_eq_getElem?_getD, ite_yes, q2, l2, hutG, hfa]
            first | refine AAt.of (SubH.nil) ?_ | (refine ⟨?_, AAt.of (SubH.nil) ?_⟩; · omega)
            refine AAny.one 0 6 (by kernel_rfl) (by kernel_rfl) (by kernel_rfl) ?_
            simp -dsimp -implicitDefEqProofs (disch := omega) [go_sem, -List.getD_eq_getElem?_getD, ite_yes, q2, l2, hutG, hfa]
            refine ACall.via (rE s' _ (G.length + 2) _ (hE.kp hap hpre Kp.app) hC.kp ((Heap.get_len_add _ _ 2).trans (by rw [eap]; rfl)) (by omega) (by omega) (by omega) (by simp; omega)) ?_
            rintro v G' ⟨rfl, hE', hC', hV', hP'⟩
            simp -dsimp -implicitDefEqProofs (disch := omega) [go_sem, -List.getD_eq_getElem?_getD, ite_yes, q2, l2, hutG, hfa]
            first | refine AAt.of (SubH.nil) ?_ | (refine ⟨?_, AAt.of (SubH.nil) ?_⟩; · omega)
            refine AAny.done (by kernel_rfl) ?_
            simp -dsimp -implicitDefEqProofs (disch := omega) [go_sem, -List.getD_eq_getElem?_getD, ite_yes, q2, l2, hutG, hfa]
            have k1 := hE'.l1
            have k2 := hE'.l2
            have k3 := hE'.l3
            have k4 := hE'.l4
            have k5 := hE'.l5
            have k6 := hE'.l6
            have k7 := hE'.l7
            have k8 := hE'.l8
            have k9 := hE'.l9
            have kti := hE'.s1.lt
            have kP := (hP.trans Kp.app).trans hP'
            have ku : u < G'.length := Nat.lt_of_lt_of_le hut kP.1
            have kV := (hV.trans (VK.app (flat3 (by first | exact trivial | exact (rfl : ([Value.int .i64 id] : List Value).all flat = true) | exact nmE_flat _ | exact eap ▸ nmE_flat _) (by first | exact trivial | exact (rfl : ([Value.int .i64 id] : List Value).all flat = true) | exact nmE_flat _ | exact eap ▸ nmE_flat _) (by first | exact trivial | exact (rfl : ([Value.int .i64 id] : List Value).all flat = true) | exact nmE_flat _ | exact eap ▸ nmE_flat _)))).trans hV'
            exact LoopEnd.of (k + 1, G') ⟨by omega, hE', by rw [e]; exact hC', kV, kP⟩ (by omega) (weakS_vk kV (by simp -dsimp -implicitDefEqProofs (disch := omega) [go_sem, -List.getD_eq_getElem?_getD, ite_yes, k1, k2, k3, k4, k5, k6, k7, k8, k9, kti, ku]))
          · simp -dsimp -implicitDefEqProofs (disch := omega) [go_sem, -List.getD_eq_getElem?_getD, ite_yes, q2, l2, hutG, hfa]
            first | refine AAt.of (SubH.nil) ?_ | (refine ⟨?_, AAt.of (SubH.nil) ?_⟩; · omega)
            refine AAny.one 1 0 (by kernel_rfl) (by kernel_rfl) (by kernel_rfl) ?_
            simp -dsimp -implicitDefEqProofs (disch := omega) [go_sem, -List.getD_eq_getElem?_getD, ite_yes, q2, l2, hutG, hfa]
            first | refine AAt.of (SubH.nil) ?_ | (refine ⟨?_, AAt.of (SubH.nil) ?_⟩; · omega)
            refine AAny.one 0 6 (by kernel_rfl) (by kernel_rfl) (by kernel_rfl) ?_
            simp -dsimp -implicitDefEqProofs (disch := omega) [go_sem, -List.getD_eq_getElem?_getD, ite_yes, q2, l2, hutG, hfa]
            refine ACall.via (rE s' _ (G.length + 2) _ (hE.kp hap hpre Kp.app) hC.kp ((Heap.get_len_add _ _ 2).trans (by rw [eap]; rfl)) (by omega) (by omega) (by omega) (by simp; omega)) ?_
            rintro v G' ⟨rfl, hE', hC', hV', hP'⟩
            simp -dsimp -implicitDefEqProofs (disch := omega) [go_sem, -List.getD_eq_getElem?_getD, ite_yes, q2, l2, hutG, hfa]
            first | refine AAt.of (SubH.nil) ?_ | (refine ⟨?_, AAt.of (SubH.nil) ?_⟩; · omega)
            refine AAny.done (by kernel_rfl) ?_
            simp -dsimp -implicitDefEqProofs (disch := omega) [go_sem, -List.getD_eq_getElem?_getD, ite_yes, q2, l2, hutG, hfa]
            have k1 := hE'.l1
            have k2 := hE'.l2
            have k3 := hE'.l3
            have k4 := hE'.l4
            have k5 := hE'.l5
            have k6 := hE'.l6
            have k7 := hE'.l7
            have k8 := hE'.l8
            have k9 := hE'.l9
            have kti := hE'.s1.lt
            have kP := (hP.trans Kp.app).trans hP'
            have ku : u < G'.length := Nat.lt_of_lt_of_le hut kP.1
            have kV := (hV.trans (VK.app (flat3 (by first | exact trivial | exact (rfl : ([Value.int .i64 id] : List Value).all flat = true) | exact nmE_flat _ | exact eap ▸ nmE_flat _) (by first | exact trivial | exact (rfl : ([Value.int .i64 id] : List Value).all flat = true) | exact nmE_flat _ | exact eap ▸ nmE_flat _) (by first | exact trivial | exact (rfl : ([Value.int .i64 id] : List Value).all flat = true) | exact nmE_flat _ | exact eap ▸ nmE_flat _)))).trans hV'
            exact LoopEnd.of (k + 1, G') ⟨by omega, hE', by rw [e]; exact hC', kV, kP⟩ (by omega) (weakS_vk kV (by simp -dsimp -implicitDefEqProofs (disch := omega) [go_sem, -List.getD_eq_getElem?_getD, ite_yes, k1, k2, k3, k4, k5, k6, k7, k8, k9, kti, ku]))
    · obtain rfl : k = (shutL l).length := by omega
      have hend : visN (shutL l) ch (fun a => waitN n ps l src a cu) (f + 1) a s = visEnd (shutL l) ch (fun a => waitN n ps l src a cu) a (visTo (visN (shutL l) ch (fun a => waitN n ps l src a cu) f) (shutL l) a s (shutL l).length) := rfl
      generalize visTo (visN (shutL l) ch (fun a => waitN n ps l src a cu) f) (shutL l) a s (shutL l).length = s' at *
      rw [hend]
      have q1 := hE.v1
      by_cases hl : a.length < (shutL l).length
      · simp -dsimp -implicitDefEqProofs (disch := omega) [go_sem, -List.getD_eq_getElem?_getD, ite_yes, hlt, q1, l1, hl]
        exact EndR.of (.tuple #[]) G ⟨rfl, hE, by rw [visEnd, if_pos (.inl hl)]; exact hC, hV, hP⟩ (fin_vk hV (by simp -dsimp -implicitDefEqProofs (disch := omega) [go_sem, -List.getD_eq_getElem?_getD, ite_yes]))
      have hll : a.length = (shutL l).length := by omega
      have hob : ordB l a = true := by
        unfold ordB
        rw [decide_eq_true hll, decide_eq_true (p := ordTo l a a.length) (fun i hi => ⟨decide_eq_true (hg.2 _ (by rw [List.getD_eq_getElem?_getD, List.getElem?_eq_getElem hi]; exact List.getElem_mem hi)), of_nodup hg.1 hi⟩)]
        rfl
      have q3 := hE.v3
      simp -dsimp -implicitDefEqProofs (disch := omega) [go_sem, -List.getD_eq_getElem?_getD, ite_yes, hlt, q1, l1, hl, q3, l3]
      refine ACall.of (hch G hE.pre a u d hSu hob) ?_
      cases hc : ch a
      · simp -dsimp -implicitDefEqProofs (disch := omega) [go_sem, -List.getD_eq_getElem?_getD, ite_yes]
        exact EndR.of (.tuple #[]) G ⟨rfl, hE, by rw [visEnd, if_pos (.inr hc)]; exact hC, hV, hP⟩ (fin_vk hV (by simp -dsimp -implicitDefEqProofs (disch := omega) [go_sem, -List.getD_eq_getElem?_getD, ite_yes]))
      have q4 := hE.v4
      have q5 := hE.v5
      have q6 := hE.v6
      have q7 := hE.v7
      simp -dsimp -implicitDefEqProofs (disch := omega) [go_sem, -List.getD_eq_getElem?_getD, ite_yes, q4, q5, q6, q7, l4, l5, l6, l7]
      refine ACall.of (waitingOf_A n ps T.cp l T.cv src a hq (by omega) d cu hcu T.cw _ T.tp T.tv u T.tw hE.s4 hE.s5 hSu hE.s7) ?_
      have c8 := hC.c8
      have q8 : aCells G ⟨T.a8, 0, none⟩ 1 = some [.int .i64 s'.2] := by rw [aCells_eq, c8]; rfl
      obtain ⟨gb, cb, c9, hcb⟩ := hC.c9
      have hne := hap.1
      have c8' : ∀ x, Heap.get (G.set T.a9 x) T.a8 = some ⟨[.int .i64 s'.2], true, 3, 1⟩ := fun x => by rw [Heap.get_set, if_neg (fun e => hne e.symm)]; exact c8
      have hfin : s'.2 < 0 ∨ waitN n ps l src a cu < s'.2 → EndR K (VOut n ps l src cu T Pre b0 K (visEnd (shutL l) ch (fun a => waitN n ps l src a cu) a s')) (.tuple #[]) ((G.set T.a9 (some ⟨[.slice (some ⟨u, 0, none⟩) a.length d], true, 28, 1⟩)).set T.a8 (some ⟨[.int .i64 (waitN n ps l src a cu)], true, 3, 1⟩)) := by
        intro h
        have kp2 : Kp T.a8 T.a9 G ((G.set T.a9 (some ⟨[.slice (some ⟨u, 0, none⟩) a.length d], true, 28, 1⟩)).set T.a8 (some ⟨[.int .i64 (waitN n ps l src a cu)], true, 3, 1⟩)) := Kp.set2.trans Kp.set1
        have vk2 : VK G ((G.set T.a9 (some ⟨[.slice (some ⟨u, 0, none⟩) a.length d], true, 28, 1⟩)).set T.a8 (some ⟨[.int .i64 (waitN n ps l src a cu)], true, 3, 1⟩)) :=
          (VK.set (b := ⟨[.slice (some ⟨u, 0, none⟩) a.length d], true, 28, 1⟩) l9 ⟨⟨hutG, .inl ⟨u, d, by simp [sg, hutG], rfl⟩⟩, trivial⟩).trans (VK.set (b := ⟨[.int .i64 (waitN n ps l src a cu)], true, 3, 1⟩) (by simpa using l8) ⟨rfl, trivial⟩)
        have hgu : Heap.get ((G.set T.a9 (some ⟨[.slice (some ⟨u, 0, none⟩) a.length d], true, 28, 1⟩)).set T.a8 (some ⟨[.int .i64 (waitN n ps l src a cu)], true, 3, 1⟩)) u = some ⟨a.flatMap nmE, true, 3, 1⟩ := kp2.get hGu hu8 hu9
        refine EndR.of (.tuple #[]) _ ⟨rfl, hE.kp hap hpre kp2, ?_, hV.trans vk2, hP.trans kp2⟩ (fin_vk (hV.trans vk2) (by simp -dsimp -implicitDefEqProofs (disch := omega) [go_sem, -List.getD_eq_getElem?_getD, ite_yes]))
        rw [visEnd, if_neg (by rw [hc]; simp; omega), if_pos h]
        refine ⟨by rw [Heap.get_set, if_pos rfl, if_pos (by simpa using l8)], u, d, ?_, hgu, hu8, hu9, hub⟩
        rw [Heap.get_set, if_neg hne, Heap.get_set, if_pos rfl, if_pos l9]
      have hfin2 : ¬ (s'.2 < 0 ∨ waitN n ps l src a cu < s'.2) → EndR K (VOut n ps l src cu T Pre b0 K (visEnd (shutL l) ch (fun a => waitN n ps l src a cu) a s')) (.tuple #[]) G := by
        intro h
        refine EndR.of (.tuple #[]) _ ⟨rfl, hE, ?_, hV, hP⟩ (fin_vk hV (by simp -dsimp -implicitDefEqProofs (disch := omega) [go_sem, -List.getD_eq_getElem?_getD, ite_yes]))
        rw [visEnd, if_neg (by rw [hc]; simp; omega), if_neg h]
        exact hC
      by_cases h5 : s'.2 < 0
      · simp -dsimp -implicitDefEqProofs (disch := omega) [go_sem, -List.getD_eq_getElem?_getD, ite_yes, q8, l8, h5, c9, c8', l9]
        exact hfin (.inl h5)
      · by_cases h6 : waitN n ps l src a cu < s'.2
        · simp -dsimp -implicitDefEqProofs (disch := omega) [go_sem, -List.getD_eq_getElem?_getD, ite_yes, q8, l8, h5, h6, c9, c8', l9]
          exact hfin (.inr h6)
        · simp -dsimp -implicitDefEqProofs (disch := omega) [go_sem, -List.getD_eq_getElem?_getD, ite_yes, q8, l8, h5, h6]
          exact hfin2 (by omega)
end Go.Proofs.Ytaehphcaiabdmaa
