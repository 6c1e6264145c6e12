/- BestWalk: the program's search. -/
import Derived.Test.YtkjgmppcgcimgaaConn
import Derived.Test.YtkjgmppcgcimgaaAm17
namespace Go.Proofs.Ytkjgmppcgcimgaa
open Go.Am
set_option linter.unusedVariables false
set_option linter.unusedSimpArgs false
set_option maxRecDepth 100000
set_option maxHeartbeats 4000000

theorem indexI_A (l : List Int) (n : Int) (hl : l.length ≤ 1048577) (c : Nat) (H : Heap) (t : Nat) (hS : Sl nmE H t l) :
    AFunC Try.prog 65 [.slice (some ⟨t, 0, none⟩) l.length c, .int .i64 n] H (.int .i64 (ixOf (fun x => decide (n = x)) l)) H := by
  refine AFunC.of_body Try.func65 (by kernel_rfl) rfl (by kernel_rfl) (by simp [Try.ntmps65]) ?_
  have ht := hS.lt
  have cs := fun k hk => hS.one (g := fun n => Value.int .i64 n) 0 k hk
  have hr := found_ix 0 (fun x => decide (n = x)) l
  simp -dsimp -implicitDefEqProofs (disch := omega) [go_sem, -List.getD_eq_getElem?_getD, ite_yes]
  refine ALoop.intro (ι := Nat) (fun k => k ≤ l.length ∧ findTo 0 (fun x => decide (n = x)) l k) (fun k => [(0, .slice (some ⟨t, 0, none⟩) l.length c), (1, .int .i64 n), (7, .int .i64 l.length), (8, .int .i64 k)]) (fun _ => H) (fun k => l.length - k) 0 ⟨by omega, fun i hi => by omega⟩ ?_ ?_
  · exact weakS_same (by simp -dsimp -implicitDefEqProofs (disch := omega) [go_sem, -List.getD_eq_getElem?_getD, ite_yes, ht])
  rintro k ⟨hk, hf⟩
  by_cases hlt : k < l.length
  · by_cases h : n = l.getD k 0
    · simp -dsimp -implicitDefEqProofs (disch := omega) [go_sem, -List.getD_eq_getElem?_getD, ite_yes, hlt, cs, h]
      have := found_uniq hr (.yes k hlt (decide_eq_true h) hf)
      exact fin_flat0 rfl (by rw [h] at this; rw [this])
    · simp -dsimp -implicitDefEqProofs (disch := omega) [go_sem, -List.getD_eq_getElem?_getD, ite_yes, hlt, cs, h]
      exact LoopEnd.of (k + 1) ⟨by omega, hf.next (decide_eq_false h)⟩ (by omega) (weakS_same (by simp -dsimp -implicitDefEqProofs (disch := omega) [go_sem, -List.getD_eq_getElem?_getD, ite_yes, ht]))
  · simp -dsimp -implicitDefEqProofs (disch := omega) [go_sem, -List.getD_eq_getElem?_getD, ite_yes, hlt]
    obtain rfl : k = l.length := by omega
    have := found_uniq hr (.no hf)
    exact fin_flat0 rfl (by rw [this])
theorem has_ix (l : List Int) (n : Int) : decide (0 ≤ ixOf (fun x => decide (n = x)) l) = hasI l n := by
  rcases ix_cases 0 (fun x => decide (n = x)) l with ⟨e, h⟩ | ⟨q, e, hq, h, _⟩
  · rw [e, hasI_no fun i hi he => by have := of_decide_eq_false (h i hi); exact this he.symm]; rfl
  · rw [e, hasI_yes hq (of_decide_eq_true h).symm]; exact decide_eq_true (by omega)
theorem containsI_A (l : List Int) (n : Int) (hl : l.length ≤ 1048577) (c : Nat) (H : Heap) (t : Nat) (hS : Sl nmE H t l) :
    AFunC Try.prog 42 [.slice (some ⟨t, 0, none⟩) l.length c, .int .i64 n] H (.bool (hasI l n)) H := by
  refine AFunC.of_body Try.func42 (by kernel_rfl) rfl (by kernel_rfl) (by simp [Try.ntmps42]) ?_
  simp -dsimp -implicitDefEqProofs (disch := omega) [go_sem, -List.getD_eq_getElem?_getD, ite_yes]
  refine ACall.of (indexI_A l n hl c H t hS) ?_
  simp -dsimp -implicitDefEqProofs (disch := omega) [go_sem, -List.getD_eq_getElem?_getD, ite_yes]
  exact fin_flat0 rfl (by rw [← has_ix])
theorem copyIntsI_A (a : List Int) (ha : a.length ≤ 1048577) (c2 : Nat) (H : Heap) (u : Nat) (hU : Sl nmE H u a) :
    AFunC Try.prog 43 [.slice (some ⟨u, 0, none⟩) a.length c2] H (.slice (some ⟨H.length, 0, none⟩) a.length a.length) (H ++ [some ⟨a.flatMap nmE, true, 3, 1⟩]) := by
  refine AFunC.of_body Try.func43 (by kernel_rfl) rfl (by kernel_rfl) (by simp [Try.ntmps43]) ?_
  have hu := hU.lt
  have al := hU.all (s := 1) (fun _ => rfl)
  rw [Nat.mul_one] at al
  simp -dsimp -implicitDefEqProofs (disch := omega) [go_sem, -List.getD_eq_getElem?_getD, ite_yes, hu, al]
  refine ⟨by omega, fin_list [some 1] rfl ?_ (by simp -dsimp -implicitDefEqProofs (disch := omega) [go_sem, -List.getD_eq_getElem?_getD, ite_yes, hu])⟩
  simp -dsimp -implicitDefEqProofs (disch := omega) [go_sem, -List.getD_eq_getElem?_getD, ite_yes]
  exact .inl ⟨rfl, nmE_flat _⟩
structure TourOk (n : Nat) (ps : List Pp) (l : List Tk) (src : Int) : Prop where
  o_n : goodN n ps = true
  o_t : ∀ i, i < l.length → 1 ≤ (l.getD i (0, 0, 0)).2.1 ∧ (l.getD i (0, 0, 0)).2.1 ≤ n
  o_s : 1 ≤ src ∧ src ≤ n
  o_l : l.length ≤ 5
  o_w : ∀ a, GoodW l.length a → 0 ≤ walkZ n ps l src a
structure YEnv (n : Nat) (ps : List Pp) (l : List Tk) (src : Int) (a1 a2 a3 a4 a5 a6 tp cp tv cv : Nat) (K : Heap) : Prop where
  v1 : aCells K ⟨a1, 0, none⟩ 1 = some [.slice (some ⟨tv, 0, none⟩) l.length cv]
  v2 : aCells K ⟨a2, 0, none⟩ 1 = some [.func (.func 41) #[] #[.pointer (some ⟨a1, 0, none⟩), .pointer (some ⟨a2, 0, none⟩), .pointer (some ⟨a3, 0, none⟩), .pointer (some ⟨a4, 0, none⟩), .pointer (some ⟨a5, 0, none⟩), .pointer (some ⟨a6, 0, none⟩)]]
  v3 : aCells K ⟨a3, 0, none⟩ 2 = some [.int .i64 n, .slice (some ⟨tp, 0, none⟩) ps.length cp]
  v4 : aCells K ⟨a4, 0, none⟩ 1 = some [.int .i64 src]
  s1 : Sl tkE K tv l
  sp : Sl ppE K tp ps
  l1 : a1 < K.length
  l2 : a2 < K.length
  l3 : a3 < K.length
  l4 : a4 < K.length
  l5 : a5 < K.length
  l6 : a6 < K.length
  d1 : a1 ≠ a5 ∧ a1 ≠ a6
  d2 : a2 ≠ a5 ∧ a2 ≠ a6
  d3 : a3 ≠ a5 ∧ a3 ≠ a6
  d4 : a4 ≠ a5 ∧ a4 ≠ a6
  dv : tv ≠ a5 ∧ tv ≠ a6
  dp : tp ≠ a5 ∧ tp ≠ a6
  d5 : a5 ≠ a6
theorem YEnv.kp {n : Nat} {ps : List Pp} {l : List Tk} {src : Int} {a1 a2 a3 a4 a5 a6 tp cp tv cv : Nat} {K G : Heap} (h : YEnv n ps l src a1 a2 a3 a4 a5 a6 tp cp tv cv K) (k : Kp a5 a6 K G) : YEnv n ps l src a1 a2 a3 a4 a5 a6 tp cp tv cv G :=
  ⟨k.cells h.l1 h.d1.1 h.d1.2 h.v1, k.cells h.l2 h.d2.1 h.d2.2 h.v2, k.cells h.l3 h.d3.1 h.d3.2 h.v3, k.cells h.l4 h.d4.1 h.d4.2 h.v4, k.sl h.s1 h.dv.1 h.dv.2, k.sl h.sp h.dp.1 h.dp.2, Nat.lt_of_lt_of_le h.l1 k.1, Nat.lt_of_lt_of_le h.l2 k.1, Nat.lt_of_lt_of_le h.l3 k.1, Nat.lt_of_lt_of_le h.l4 k.1, Nat.lt_of_lt_of_le h.l5 k.1, Nat.lt_of_lt_of_le h.l6 k.1, h.d1, h.d2, h.d3, h.d4, h.dv, h.dp, h.d5⟩
structure YCel (a5 a6 e6 : Nat) (b0 : Nat) (s : Bwk) (K : Heap) : Prop where
  c5 : K.get a5 = some ⟨[.int .i64 s.2], true, 3, 1⟩
  c6 : ∃ g c, K.get a6 = some ⟨[.slice (some ⟨g, 0, none⟩) s.1.length c], true, e6, 1⟩ ∧ K.get g = some ⟨s.1.flatMap nmE, true, 3, 1⟩ ∧ g ≠ a5 ∧ g ≠ a6 ∧ b0 ≤ g
theorem YCel.kp {a5 a6 e6 b0 : Nat} {s : Bwk} {K L : Heap} (h : YCel a5 a6 e6 b0 s K) : YCel a5 a6 e6 b0 s (K ++ L) := by
  obtain ⟨g, c, h1, h2, h3⟩ := h.c6
  exact ⟨Heap.get_of h.c5, g, c, Heap.get_of h1, Heap.get_of h2, h3⟩
def YOut (n : Nat) (ps : List Pp) (l : List Tk) (src : Int) (a1 a2 a3 a4 a5 a6 tp cp tv cv e6 b0 : Nat) (K : Heap) (s : Bwk) (v : Value) (G : Heap) : Prop :=
  v = .tuple #[] ∧ YEnv n ps l src a1 a2 a3 a4 a5 a6 tp cp tv cv G ∧ YCel a5 a6 e6 b0 s G ∧ VK K G ∧ Kp a5 a6 K G
theorem visitW_R (n : Nat) (ps : List Pp) (l : List Tk) (src : Int) (ok : TourOk n ps l src) (a1 a2 a3 a4 a5 a6 tp cp tv cv e6 b0 : Nat) :
    ∀ (f : Nat) (a : List Int) (s : Bwk) (d u : Nat) (K : Heap), GoodW l.length a → l.length - a.length < f → YEnv n ps l src a1 a2 a3 a4 a5 a6 tp cp tv cv K → YCel a5 a6 e6 b0 s K → K.get u = some ⟨a.flatMap nmE, true, 3, 1⟩ → u ≠ a5 → u ≠ a6 → b0 ≤ u → b0 ≤ K.length →
    AFunR Try.prog 41 [.slice (some ⟨u, 0, none⟩) a.length d, .pointer (some ⟨a1, 0, none⟩), .pointer (some ⟨a2, 0, none⟩), .pointer (some ⟨a3, 0, none⟩), .pointer (some ⟨a4, 0, none⟩), .pointer (some ⟨a5, 0, none⟩), .pointer (some ⟨a6, 0, none⟩)] K (YOut n ps l src a1 a2 a3 a4 a5 a6 tp cp tv cv e6 b0 K (visW l.length (walkZ n ps l src) f a s))
  | 0, a, s, d, u, K, hg, hf, hE, hC, hu, hu8, hu9, hub, hkb => absurd hf (Nat.not_lt_zero _)
  | f + 1, a, s, d, u, K, hg, hf, hE, hC, hu, hu8, hu9, hub, hkb => by
    have hle := hg.le
    have hl5 := ok.o_l
    have hut := Heap.get_lt hu
    have hal : a.length ≤ 7 := by omega
    have hun : visW l.length (walkZ n ps l src) (f + 1) a s = wEnd l.length (walkZ n ps l src) a (wTo (visW l.length (walkZ n ps l src) f) a s l.length) := rfl
    refine AFunR.of_body Try.func41 (by kernel_rfl) rfl (by kernel_rfl) (by simp [Try.ntmps41]) ?_
    rw [hun]
    have q1 := hE.v1
    have l1 := hE.l1
    have l2 := hE.l2
    have l3 := hE.l3
    have l4 := hE.l4
    have l5 := hE.l5
    have l6 := hE.l6
    simp -dsimp -implicitDefEqProofs (disch := omega) [go_sem, -List.getD_eq_getElem?_getD, ite_yes, q1, l1]
    refine ALoop.intro (ι := Nat × Heap) (fun q => q.1 ≤ l.length ∧ YEnv n ps l src a1 a2 a3 a4 a5 a6 tp cp tv cv q.2 ∧ YCel a5 a6 e6 b0 (wTo (visW l.length (walkZ n ps l src) f) a s q.1) q.2 ∧ VK K q.2 ∧ Kp a5 a6 K q.2)
      (fun q => [(0, .slice (some ⟨u, 0, none⟩) a.length d), (1, .pointer (some ⟨a1, 0, none⟩)), (2, .pointer (some ⟨a2, 0, none⟩)), (3, .pointer (some ⟨a3, 0, none⟩)), (4, .pointer (some ⟨a4, 0, none⟩)), (5, .pointer (some ⟨a5, 0, none⟩)), (6, .pointer (some ⟨a6, 0, none⟩)), (12, .int .i64 l.length), (13, .int .i64 q.1)]) (fun q => q.2) (fun q => l.length - q.1) (0, K) ⟨by omega, hE, hC, VK.refl K, Kp.refl K⟩ ?_ ?_
    · exact weakS_same (by simp -dsimp -implicitDefEqProofs (disch := omega) [go_sem, -List.getD_eq_getElem?_getD, ite_yes, l1, l2, l3, l4, l5, l6, hut])
    clear q1 l1 l2 l3 l4 l5 l6 hE hC
    rintro ⟨k, G⟩ ⟨hk, hE, hC, hV, hP⟩
    simp only at hk hE hC hV hP ⊢
    have l1 := hE.l1
    have l2 := hE.l2
    have l3 := hE.l3
    have l4 := hE.l4
    have l5 := hE.l5
    have l6 := hE.l6
    have q1 := hE.v1
    have q3 := hE.v3
    have q4 := hE.v4
    have gtv := hE.s1.lt
    have gtp := hE.sp.lt
    have hGu := hP.get hu hu8 hu9
    have hutG := Heap.get_lt hGu
    have hSu : Sl nmE G u a := ⟨_, [], hGu, by simp⟩
    have hkG : b0 ≤ G.length := by have := hP.1; omega
    by_cases hlt : k < l.length
    rotate_left
    · obtain rfl : k = l.length := by omega
      generalize wTo (visW l.length (walkZ n ps l src) f) a s l.length = s' at *
      by_cases hl : a.length < l.length
      · have hl' : (a.length : Int) < (l.length : Int) := by omega
        rw [wEnd, if_pos hl]
        simp -dsimp -implicitDefEqProofs (disch := omega) [go_sem, -List.getD_eq_getElem?_getD, ite_yes, hl', hl, q1, l1]
        exact EndR.of (.tuple #[]) G ⟨rfl, hE, hC, hV, hP⟩ (fin_vk hV (by simp -dsimp -implicitDefEqProofs (disch := omega) [go_sem, -List.getD_eq_getElem?_getD, ite_yes]))
      have hl' : ¬ (a.length : Int) < (l.length : Int) := by omega
      have A := walkSteps_A n ps (NetAt.of ok.o_n) l ok.o_t src ok.o_s a (hg.at (by omega)) cp cv d G tp tv u hE.sp hE.s1 hSu
      have hw0 := ok.o_w a hg
      rw [posZ_pos (by omega), decide_eq_true hw0] at A
      obtain ⟨res, hres⟩ : ∃ r, r = wEnd l.length (walkZ n ps l src) a s' := ⟨_, rfl⟩
      rw [← hres]
      rw [wEnd, if_neg hl] at hres
      generalize walkZ n ps l src a = w at *
      have c5 := hC.c5
      have q5 : aCells G ⟨a5, 0, none⟩ 1 = some [.int .i64 s'.2] := by rw [aCells_eq, c5]; rfl
      obtain ⟨gb, cb, c6, hcb⟩ := hC.c6
      have hne := hE.d5
      have c5' : ∀ x, Heap.get (G.set a6 x) a5 = some ⟨[.int .i64 s'.2], true, 3, 1⟩ := fun x => by rw [Heap.get_set, if_neg (fun e => hne e.symm)]; exact c5
      have hfin : s'.2 < 0 ∨ w < s'.2 → EndR K (YOut n ps l src a1 a2 a3 a4 a5 a6 tp cp tv cv e6 b0 K res) (.tuple #[]) ((G.set a6 (some ⟨[.slice (some ⟨u, 0, none⟩) a.length d], true, e6, 1⟩)).set a5 (some ⟨[.int .i64 w], true, 3, 1⟩)) := by
        intro h
        have kp2 : Kp a5 a6 G ((G.set a6 (some ⟨[.slice (some ⟨u, 0, none⟩) a.length d], true, e6, 1⟩)).set a5 (some ⟨[.int .i64 w], true, 3, 1⟩)) := Kp.set2.trans Kp.set1
        have vk2 : VK G ((G.set a6 (some ⟨[.slice (some ⟨u, 0, none⟩) a.length d], true, e6, 1⟩)).set a5 (some ⟨[.int .i64 w], true, 3, 1⟩)) :=
          (VK.set (b := ⟨[.slice (some ⟨u, 0, none⟩) a.length d], true, e6, 1⟩) l6 ⟨⟨hutG, .inl ⟨u, d, by simp [sg, hutG], rfl⟩⟩, trivial⟩).trans (VK.set (b := ⟨[.int .i64 w], true, 3, 1⟩) (by simpa using l5) ⟨rfl, trivial⟩)
        have hgu : Heap.get ((G.set a6 (some ⟨[.slice (some ⟨u, 0, none⟩) a.length d], true, e6, 1⟩)).set a5 (some ⟨[.int .i64 w], true, 3, 1⟩)) u = some ⟨a.flatMap nmE, true, 3, 1⟩ := kp2.get hGu hu8 hu9
        refine EndR.of (.tuple #[]) _ ⟨rfl, hE.kp kp2, ?_, hV.trans vk2, hP.trans kp2⟩ (fin_vk (hV.trans vk2) (by simp -dsimp -implicitDefEqProofs (disch := omega) [go_sem, -List.getD_eq_getElem?_getD, ite_yes]))
        rw [hres, if_pos h]
        refine ⟨by rw [Heap.get_set, if_pos rfl, if_pos (by simpa using l5)], u, d, ?_, hgu, hu8, hu9, hub⟩
        rw [Heap.get_set, if_neg hne, Heap.get_set, if_pos rfl, if_pos l6]
      have hfin2 : ¬ (s'.2 < 0 ∨ w < s'.2) → EndR K (YOut n ps l src a1 a2 a3 a4 a5 a6 tp cp tv cv e6 b0 K res) (.tuple #[]) G := by
        intro h
        refine EndR.of (.tuple #[]) _ ⟨rfl, hE, ?_, hV, hP⟩ (fin_vk hV (by simp -dsimp -implicitDefEqProofs (disch := omega) [go_sem, -List.getD_eq_getElem?_getD, ite_yes]))
        rw [hres, if_neg h]
        exact hC
      simp -dsimp -implicitDefEqProofs (disch := omega) [go_sem, -List.getD_eq_getElem?_getD, ite_yes, hl', hl, q1, q3, q4, l1, l3, l4]
      refine ACall.of A ?_
      by_cases h5 : s'.2 < 0
      · simp -dsimp -implicitDefEqProofs (disch := omega) [go_sem, -List.getD_eq_getElem?_getD, ite_yes, q5, l5, h5, c6, c5', l6]
        exact hfin (.inl h5)
      · by_cases h6 : w < s'.2
        · simp -dsimp -implicitDefEqProofs (disch := omega) [go_sem, -List.getD_eq_getElem?_getD, ite_yes, q5, l5, h5, h6, c6, c5', l6]
          exact hfin (.inr h6)
        · simp -dsimp -implicitDefEqProofs (disch := omega) [go_sem, -List.getD_eq_getElem?_getD, ite_yes, q5, l5, h5, h6]
          exact hfin2 (by omega)
    have hlti : (k : Int) < (l.length : Int) := by omega
    have e : wTo (visW l.length (walkZ n ps l src) f) a s (k + 1) = if hasI a k = true then wTo (visW l.length (walkZ n ps l src) f) a s k else visW l.length (walkZ n ps l src) f (a ++ [(k : Int)]) (wTo (visW l.length (walkZ n ps l src) f) a s k) := rfl
    simp -dsimp -implicitDefEqProofs (disch := omega) [go_sem, -List.getD_eq_getElem?_getD, ite_yes, hlti]
    refine ACall.of (containsI_A a k (by omega) d _ u hSu) ?_
    cases hn : hasI a (k : Int) with
    | true =>
      rw [hn, if_pos rfl] at e
      simp -dsimp -implicitDefEqProofs (disch := omega) [go_sem, -List.getD_eq_getElem?_getD, ite_yes]
      exact LoopEnd.of (k + 1, G) ⟨by omega, hE, by rw [e]; exact hC, hV, hP⟩ (by omega) (weakS_vk hV (by simp -dsimp -implicitDefEqProofs (disch := omega) [go_sem, -List.getD_eq_getElem?_getD, ite_yes, l1, l2, l3, l4, l5, l6, hutG]))
    | false =>
    rw [hn, if_neg Bool.false_ne_true] at e
    have hgood := hg.snoc hlt hn
    have rE : ∀ (s' : Bwk) (d' u' : Nat) (G' : Heap), YEnv n ps l src a1 a2 a3 a4 a5 a6 tp cp tv cv G' → YCel a5 a6 e6 b0 s' G' → G'.get u' = some ⟨(a ++ [(k : Int)]).flatMap nmE, true, 3, 1⟩ → u' ≠ a5 → u' ≠ a6 → b0 ≤ u' → b0 ≤ G'.length →
        AFunR Try.prog 41 [.slice (some ⟨u', 0, none⟩) (a.length + 1) d', .pointer (some ⟨a1, 0, none⟩), .pointer (some ⟨a2, 0, none⟩), .pointer (some ⟨a3, 0, none⟩), .pointer (some ⟨a4, 0, none⟩), .pointer (some ⟨a5, 0, none⟩), .pointer (some ⟨a6, 0, none⟩)] G' (YOut n ps l src a1 a2 a3 a4 a5 a6 tp cp tv cv e6 b0 G' (visW l.length (walkZ n ps l src) f (a ++ [(k : Int)]) s')) := by
      intro s' d' u' G' h2 h3 h4 h5 h6 h7 h8
      have := visitW_R n ps l src ok a1 a2 a3 a4 a5 a6 tp cp tv cv e6 b0 f (a ++ [(k : Int)]) s' d' u' G' hgood (by have := hgood.le; rw [List.length_append, List.length_singleton] at this ⊢; omega) h2 h3 h4 h5 h6 h7 h8
      rwa [List.length_append, List.length_singleton] at this
    generalize hs' : wTo (visW l.length (walkZ n ps l src) f) a s k = s' at *
    have q2 := hE.v2
    have eap : (a ++ [(k : Int)]).flatMap nmE = a.flatMap nmE ++ [.int .i64 (k : Int)] := by rw [List.flatMap_append]; rfl
    have hfa : (a.flatMap nmE).length = a.length := by rw [nmE_length]; omega
    simp -dsimp -implicitDefEqProofs (disch := omega) [go_sem, -List.getD_eq_getElem?_getD, ite_yes]
    refine ADraw.any [] (by kernel_rfl) (SubH.nil) ?_
    refine AAny.takes (fuel := 5) (by kernel_rfl) (by kernel_rfl) [1, 3] (by kernel_rfl) (by kernel_rfl) ?_
    simp -dsimp -implicitDefEqProofs (disch := omega) [go_sem, -List.getD_eq_getElem?_getD, ite_yes, q2, l2, hutG, hfa]
    refine AAny.three 4 0 2 4 (by kernel_rfl) (by kernel_rfl) (by kernel_rfl) ?_ ?_ ?_
    · simp -dsimp -implicitDefEqProofs (disch := omega) [go_sem, -List.getD_eq_getElem?_getD, ite_yes, q2, l2, hutG, hfa]
      first | refine AAt.of (SubH.nil) ?_ | (refine ⟨?_, AAt.of (SubH.nil) ?_⟩; · omega)
      refine AAny.two 3 2 4 (by kernel_rfl) (by kernel_rfl) (by kernel_rfl) ?_ ?_
      · simp -dsimp -implicitDefEqProofs (disch := omega) [go_sem, -List.getD_eq_getElem?_getD, ite_yes, q2, l2, hutG, hfa]
        first | refine ACall.of (copyIntsI_A a (by omega) d _ u hSu) ?_ | refine ACall.of (copyIntsI_A a (by omega) d _ u hSu.app) ?_
        simp -dsimp -implicitDefEqProofs (disch := omega) [go_sem, -List.getD_eq_getElem?_getD, ite_yes, q2, l2, hutG, hfa]
        first | refine AAt.of (SubH.nil) ?_ | (refine ⟨?_, AAt.of (SubH.nil) ?_⟩; · omega)
        refine AAny.one 2 4 (by kernel_rfl) (by kernel_rfl) (by kernel_rfl) ?_
        simp -dsimp -implicitDefEqProofs (disch := omega) [go_sem, -List.getD_eq_getElem?_getD, ite_yes, q2, l2, hutG, hfa]
        first | refine AAt.of (SubH.nil) ?_ | (refine ⟨?_, AAt.of (SubH.nil) ?_⟩; · omega)
        refine AAny.one 1 5 (by kernel_rfl) (by kernel_rfl) (by kernel_rfl) ?_
        simp -dsimp -implicitDefEqProofs (disch := omega) [go_sem, -List.getD_eq_getElem?_getD, ite_yes, q2, l2, hutG, hfa]
        first | refine AAt.of (SubH.nil) ?_ | (refine ⟨?_, AAt.of (SubH.nil) ?_⟩; · omega)
        refine AAny.one 0 6 (by kernel_rfl) (by kernel_rfl) (by kernel_rfl) ?_
        simp -dsimp -implicitDefEqProofs (disch := omega) [go_sem, -List.getD_eq_getElem?_getD, ite_yes, q2, l2, hutG, hfa]
        refine ACall.via (rE s' _ (G.length + 2) _ (hE.kp Kp.app) hC.kp ((Heap.get_len_add _ _ 2).trans (by rw [eap]; rfl)) (by omega) (by omega) (by omega) (by simp; omega)) ?_
        rintro v G' ⟨rfl, hE', hC', hV', hP'⟩
        simp -dsimp -implicitDefEqProofs (disch := omega) [go_sem, -List.getD_eq_getElem?_getD, ite_yes, q2, l2, hutG, hfa]
        first | refine AAt.of (SubH.nil) ?_ | (refine ⟨?_, AAt.of (SubH.nil) ?_⟩; · omega)
        refine AAny.done (by kernel_rfl) ?_
        simp -dsimp -implicitDefEqProofs (disch := omega) [go_sem, -List.getD_eq_getElem?_getD, ite_yes, q2, l2, hutG, hfa]
        have k1 := hE'.l1
        have k2 := hE'.l2
        have k3 := hE'.l3
        have k4 := hE'.l4
        have k5 := hE'.l5
        have k6 := hE'.l6
        have kP := (hP.trans Kp.app).trans hP'
        have ku : u < G'.length := Nat.lt_of_lt_of_le hut kP.1
        have kV := (hV.trans (VK.app (flat3 (by first | exact trivial | exact (rfl : ([Value.int .i64 (k : Int)] : List Value).all flat = true) | exact nmE_flat _ | exact eap ▸ nmE_flat _) (by first | exact trivial | exact (rfl : ([Value.int .i64 (k : Int)] : List Value).all flat = true) | exact nmE_flat _ | exact eap ▸ nmE_flat _) (by first | exact trivial | exact (rfl : ([Value.int .i64 (k : Int)] : List Value).all flat = true) | exact nmE_flat _ | exact eap ▸ nmE_flat _)))).trans hV'
        exact LoopEnd.of (k + 1, G') ⟨by omega, hE', by rw [e]; exact hC', kV, kP⟩ (by omega) (weakS_vk kV (by simp -dsimp -implicitDefEqProofs (disch := omega) [go_sem, -List.getD_eq_getElem?_getD, ite_yes, k1, k2, k3, k4, k5, k6, ku]))
      · simp -dsimp -implicitDefEqProofs (disch := omega) [go_sem, -List.getD_eq_getElem?_getD, ite_yes, q2, l2, hutG, hfa]
        first | refine AAt.of (SubH.nil) ?_ | (refine ⟨?_, AAt.of (SubH.nil) ?_⟩; · omega)
        refine AAny.one 2 2 (by kernel_rfl) (by kernel_rfl) (by kernel_rfl) ?_
        simp -dsimp -implicitDefEqProofs (disch := omega) [go_sem, -List.getD_eq_getElem?_getD, ite_yes, q2, l2, hutG, hfa]
        first | refine ACall.of (copyIntsI_A a (by omega) d _ u hSu) ?_ | refine ACall.of (copyIntsI_A a (by omega) d _ u hSu.app) ?_
        simp -dsimp -implicitDefEqProofs (disch := omega) [go_sem, -List.getD_eq_getElem?_getD, ite_yes, q2, l2, hutG, hfa]
        first | refine AAt.of (SubH.nil) ?_ | (refine ⟨?_, AAt.of (SubH.nil) ?_⟩; · omega)
        refine AAny.one 1 5 (by kernel_rfl) (by kernel_rfl) (by kernel_rfl) ?_
        simp -dsimp -implicitDefEqProofs (disch := omega) [go_sem, -List.getD_eq_getElem?_getD, ite_yes, q2, l2, hutG, hfa]
        first | refine AAt.of (SubH.nil) ?_ | (refine ⟨?_, AAt.of (SubH.nil) ?_⟩; · omega)
        refine AAny.one 0 6 (by kernel_rfl) (by kernel_rfl) (by kernel_rfl) ?_
        simp -dsimp -implicitDefEqProofs (disch := omega) [go_sem, -List.getD_eq_getElem?_getD, ite_yes, q2, l2, hutG, hfa]
        refine ACall.via (rE s' _ (G.length + 2) _ (hE.kp Kp.app) hC.kp ((Heap.get_len_add _ _ 2).trans (by rw [eap]; rfl)) (by omega) (by omega) (by omega) (by simp; omega)) ?_
        rintro v G' ⟨rfl, hE', hC', hV', hP'⟩
        simp -dsimp -implicitDefEqProofs (disch := omega) [go_sem, -List.getD_eq_getElem?_getD, ite_yes, q2, l2, hutG, hfa]
        first | refine AAt.of (SubH.nil) ?_ | (refine ⟨?_, AAt.of (SubH.nil) ?_⟩; · omega)
        refine AAny.done (by kernel_rfl) ?_
        simp -dsimp -implicitDefEqProofs (disch := omega) [go_sem, -List.getD_eq_getElem?_getD, ite_yes, q2, l2, hutG, hfa]
        have k1 := hE'.l1
        have k2 := hE'.l2
        have k3 := hE'.l3
        have k4 := hE'.l4
        have k5 := hE'.l5
        have k6 := hE'.l6
        have kP := (hP.trans Kp.app).trans hP'
        have ku : u < G'.length := Nat.lt_of_lt_of_le hut kP.1
        have kV := (hV.trans (VK.app (flat3 (by first | exact trivial | exact (rfl : ([Value.int .i64 (k : Int)] : List Value).all flat = true) | exact nmE_flat _ | exact eap ▸ nmE_flat _) (by first | exact trivial | exact (rfl : ([Value.int .i64 (k : Int)] : List Value).all flat = true) | exact nmE_flat _ | exact eap ▸ nmE_flat _) (by first | exact trivial | exact (rfl : ([Value.int .i64 (k : Int)] : List Value).all flat = true) | exact nmE_flat _ | exact eap ▸ nmE_flat _)))).trans hV'
        exact LoopEnd.of (k + 1, G') ⟨by omega, hE', by rw [e]; exact hC', kV, kP⟩ (by omega) (weakS_vk kV (by simp -dsimp -implicitDefEqProofs (disch := omega) [go_sem, -List.getD_eq_getElem?_getD, ite_yes, k1, k2, k3, k4, k5, k6, ku]))
    · simp -dsimp -implicitDefEqProofs (disch := omega) [go_sem, -List.getD_eq_getElem?_getD, ite_yes, q2, l2, hutG, hfa]
      first | refine ACall.of (copyIntsI_A a (by omega) d _ u hSu) ?_ | refine ACall.of (copyIntsI_A a (by omega) d _ u hSu.app) ?_
      simp -dsimp -implicitDefEqProofs (disch := omega) [go_sem, -List.getD_eq_getElem?_getD, ite_yes, q2, l2, hutG, hfa]
      first | refine AAt.of (SubH.nil) ?_ | (refine ⟨?_, AAt.of (SubH.nil) ?_⟩; · omega)
      refine AAny.two 3 0 4 (by kernel_rfl) (by kernel_rfl) (by kernel_rfl) ?_ ?_
      · simp -dsimp -implicitDefEqProofs (disch := omega) [go_sem, -List.getD_eq_getElem?_getD, ite_yes, q2, l2, hutG, hfa]
        first | refine AAt.of (SubH.nil) ?_ | (refine ⟨?_, AAt.of (SubH.nil) ?_⟩; · omega)
        refine AAny.one 2 4 (by kernel_rfl) (by kernel_rfl) (by kernel_rfl) ?_
        simp -dsimp -implicitDefEqProofs (disch := omega) [go_sem, -List.getD_eq_getElem?_getD, ite_yes, q2, l2, hutG, hfa]
        first | refine AAt.of (SubH.nil) ?_ | (refine ⟨?_, AAt.of (SubH.nil) ?_⟩; · omega)
        refine AAny.one 1 5 (by kernel_rfl) (by kernel_rfl) (by kernel_rfl) ?_
        simp -dsimp -implicitDefEqProofs (disch := omega) [go_sem, -List.getD_eq_getElem?_getD, ite_yes, q2, l2, hutG, hfa]
        first | refine AAt.of (SubH.nil) ?_ | (refine ⟨?_, AAt.of (SubH.nil) ?_⟩; · omega)
        refine AAny.one 0 6 (by kernel_rfl) (by kernel_rfl) (by kernel_rfl) ?_
        simp -dsimp -implicitDefEqProofs (disch := omega) [go_sem, -List.getD_eq_getElem?_getD, ite_yes, q2, l2, hutG, hfa]
        refine ACall.via (rE s' _ (G.length + 2) _ (hE.kp Kp.app) hC.kp ((Heap.get_len_add _ _ 2).trans (by rw [eap]; rfl)) (by omega) (by omega) (by omega) (by simp; omega)) ?_
        rintro v G' ⟨rfl, hE', hC', hV', hP'⟩
        simp -dsimp -implicitDefEqProofs (disch := omega) [go_sem, -List.getD_eq_getElem?_getD, ite_yes, q2, l2, hutG, hfa]
        first | refine AAt.of (SubH.nil) ?_ | (refine ⟨?_, AAt.of (SubH.nil) ?_⟩; · omega)
        refine AAny.done (by kernel_rfl) ?_
        simp -dsimp -implicitDefEqProofs (disch := omega) [go_sem, -List.getD_eq_getElem?_getD, ite_yes, q2, l2, hutG, hfa]
        have k1 := hE'.l1
        have k2 := hE'.l2
        have k3 := hE'.l3
        have k4 := hE'.l4
        have k5 := hE'.l5
        have k6 := hE'.l6
        have kP := (hP.trans Kp.app).trans hP'
        have ku : u < G'.length := Nat.lt_of_lt_of_le hut kP.1
        have kV := (hV.trans (VK.app (flat3 (by first | exact trivial | exact (rfl : ([Value.int .i64 (k : Int)] : List Value).all flat = true) | exact nmE_flat _ | exact eap ▸ nmE_flat _) (by first | exact trivial | exact (rfl : ([Value.int .i64 (k : Int)] : List Value).all flat = true) | exact nmE_flat _ | exact eap ▸ nmE_flat _) (by first | exact trivial | exact (rfl : ([Value.int .i64 (k : Int)] : List Value).all flat = true) | exact nmE_flat _ | exact eap ▸ nmE_flat _)))).trans hV'
        exact LoopEnd.of (k + 1, G') ⟨by omega, hE', by rw [e]; exact hC', kV, kP⟩ (by omega) (weakS_vk kV (by simp -dsimp -implicitDefEqProofs (disch := omega) [go_sem, -List.getD_eq_getElem?_getD, ite_yes, k1, k2, k3, k4, k5, k6, ku]))
      · simp -dsimp -implicitDefEqProofs (disch := omega) [go_sem, -List.getD_eq_getElem?_getD, ite_yes, q2, l2, hutG, hfa]
        first | refine AAt.of (SubH.nil) ?_ | (refine ⟨?_, AAt.of (SubH.nil) ?_⟩; · omega)
        refine AAny.two 2 0 5 (by kernel_rfl) (by kernel_rfl) (by kernel_rfl) ?_ ?_
        · simp -dsimp -implicitDefEqProofs (disch := omega) [go_sem, -List.getD_eq_getElem?_getD, ite_yes, q2, l2, hutG, hfa]
          first | refine AAt.of (SubH.nil) ?_ | (refine ⟨?_, AAt.of (SubH.nil) ?_⟩; · omega)
          refine AAny.one 1 5 (by kernel_rfl) (by kernel_rfl) (by kernel_rfl) ?_
          simp -dsimp -implicitDefEqProofs (disch := omega) [go_sem, -List.getD_eq_getElem?_getD, ite_yes, q2, l2, hutG, hfa]
          first | refine AAt.of (SubH.nil) ?_ | (refine ⟨?_, AAt.of (SubH.nil) ?_⟩; · omega)
          refine AAny.one 0 6 (by kernel_rfl) (by kernel_rfl) (by kernel_rfl) ?_
          simp -dsimp -implicitDefEqProofs (disch := omega) [go_sem, -List.getD_eq_getElem?_getD, ite_yes, q2, l2, hutG, hfa]
          refine ACall.via (rE s' _ (G.length + 2) _ (hE.kp Kp.app) hC.kp ((Heap.get_len_add _ _ 2).trans (by rw [eap]; rfl)) (by omega) (by omega) (by omega) (by simp; omega)) ?_
          rintro v G' ⟨rfl, hE', hC', hV', hP'⟩
          simp -dsimp -implicitDefEqProofs (disch := omega) [go_sem, -List.getD_eq_getElem?_getD, ite_yes, q2, l2, hutG, hfa]
          first | refine AAt.of (SubH.nil) ?_ | (refine ⟨?_, AAt.of (SubH.nil) ?_⟩; · omega)
          refine AAny.done (by kernel_rfl) ?_
          simp -dsimp -implicitDefEqProofs (disch := omega) [go_sem, -List.getD_eq_getElem?_getD, ite_yes, q2, l2, hutG, hfa]
          have k1 := hE'.l1
          have k2 := hE'.l2
          have k3 := hE'.l3
          have k4 := hE'.l4
          have k5 := hE'.l5
          have k6 := hE'.l6
          have kP := (hP.trans Kp.app).trans hP'
          have ku : u < G'.length := Nat.lt_of_lt_of_le hut kP.1
          have kV := (hV.trans (VK.app (flat3 (by first | exact trivial | exact (rfl : ([Value.int .i64 (k : Int)] : List Value).all flat = true) | exact nmE_flat _ | exact eap ▸ nmE_flat _) (by first | exact trivial | exact (rfl : ([Value.int .i64 (k : Int)] : List Value).all flat = true) | exact nmE_flat _ | exact eap ▸ nmE_flat _) (by first | exact trivial | exact (rfl : ([Value.int .i64 (k : Int)] : List Value).all flat = true) | exact nmE_flat _ | exact eap ▸ nmE_flat _)))).trans hV'
          exact LoopEnd.of (k + 1, G') ⟨by omega, hE', by rw [e]; exact hC', kV, kP⟩ (by omega) (weakS_vk kV (by simp -dsimp -implicitDefEqProofs (disch := omega) [go_sem, -List.getD_eq_getElem?_getD, ite_yes, k1, k2, k3, k4, k5, k6, ku]))
        · simp -dsimp -implicitDefEqProofs (disch := omega) [go_sem, -List.getD_eq_getElem?_getD, ite_yes, q2, l2, hutG, hfa]
          first | refine AAt.of (SubH.nil) ?_ | (refine ⟨?_, AAt.of (SubH.nil) ?_⟩; · omega)
          refine AAny.one 1 0 (by kernel_rfl) (by kernel_rfl) (by kernel_rfl) ?_
          simp -dsimp -implicitDefEqProofs (disch := omega) [go_sem, -List.getD_eq_getElem?_getD, ite_yes, q2, l2, hutG, hfa]
          first | refine AAt.of (SubH.nil) ?_ | (refine ⟨?_, AAt.of (SubH.nil) ?_⟩; · omega)
          refine AAny.one 0 6 (by kernel_rfl) (by kernel_rfl) (by kernel_rfl) ?_
          simp -dsimp -implicitDefEqProofs (disch := omega) [go_sem, -List.getD_eq_getElem?_getD, ite_yes, q2, l2, hutG, hfa]
          refine ACall.via (rE s' _ (G.length + 2) _ (hE.kp Kp.app) hC.kp ((Heap.get_len_add _ _ 2).trans (by rw [eap]; rfl)) (by omega) (by omega) (by omega) (by simp; omega)) ?_
          rintro v G' ⟨rfl, hE', hC', hV', hP'⟩
          simp -dsimp -implicitDefEqProofs (disch := omega) [go_sem, -List.getD_eq_getElem?_getD, ite_yes, q2, l2, hutG, hfa]
          first | refine AAt.of (SubH.nil) ?_ | (refine ⟨?_, AAt.of (SubH.nil) ?_⟩; · omega)
          refine AAny.done (by kernel_rfl) ?_
          simp -dsimp -implicitDefEqProofs (disch := omega) [go_sem, -List.getD_eq_getElem?_getD, ite_yes, q2, l2, hutG, hfa]
          have k1 := hE'.l1
          have k2 := hE'.l2
          have k3 := hE'.l3
          have k4 := hE'.l4
          have k5 := hE'.l5
          have k6 := hE'.l6
          have kP := (hP.trans Kp.app).trans hP'
          have ku : u < G'.length := Nat.lt_of_lt_of_le hut kP.1
          have kV := (hV.trans (VK.app (flat3 (by first | exact trivial | exact (rfl : ([Value.int .i64 (k : Int)] : List Value).all flat = true) | exact nmE_flat _ | exact eap ▸ nmE_flat _) (by first | exact trivial | exact (rfl : ([Value.int .i64 (k : Int)] : List Value).all flat = true) | exact nmE_flat _ | exact eap ▸ nmE_flat _) (by first | exact trivial | exact (rfl : ([Value.int .i64 (k : Int)] : List Value).all flat = true) | exact nmE_flat _ | exact eap ▸ nmE_flat _)))).trans hV'
          exact LoopEnd.of (k + 1, G') ⟨by omega, hE', by rw [e]; exact hC', kV, kP⟩ (by omega) (weakS_vk kV (by simp -dsimp -implicitDefEqProofs (disch := omega) [go_sem, -List.getD_eq_getElem?_getD, ite_yes, k1, k2, k3, k4, k5, k6, ku]))
    · simp -dsimp -implicitDefEqProofs (disch := omega) [go_sem, -List.getD_eq_getElem?_getD, ite_yes, q2, l2, hutG, hfa]
      first | refine AAt.of (SubH.nil) ?_ | (refine ⟨?_, AAt.of (SubH.nil) ?_⟩; · omega)
      refine AAny.two 3 0 2 (by kernel_rfl) (by kernel_rfl) (by kernel_rfl) ?_ ?_
      · simp -dsimp -implicitDefEqProofs (disch := omega) [go_sem, -List.getD_eq_getElem?_getD, ite_yes, q2, l2, hutG, hfa]
        first | refine AAt.of (SubH.nil) ?_ | (refine ⟨?_, AAt.of (SubH.nil) ?_⟩; · omega)
        refine AAny.one 2 2 (by kernel_rfl) (by kernel_rfl) (by kernel_rfl) ?_
        simp -dsimp -implicitDefEqProofs (disch := omega) [go_sem, -List.getD_eq_getElem?_getD, ite_yes, q2, l2, hutG, hfa]
        first | refine ACall.of (copyIntsI_A a (by omega) d _ u hSu) ?_ | refine ACall.of (copyIntsI_A a (by omega) d _ u hSu.app) ?_
        simp -dsimp -implicitDefEqProofs (disch := omega) [go_sem, -List.getD_eq_getElem?_getD, ite_yes, q2, l2, hutG, hfa]
        first | refine AAt.of (SubH.nil) ?_ | (refine ⟨?_, AAt.of (SubH.nil) ?_⟩; · omega)
        refine AAny.one 1 5 (by kernel_rfl) (by kernel_rfl) (by kernel_rfl) ?_
        simp -dsimp -implicitDefEqProofs (disch := omega) [go_sem, -List.getD_eq_getElem?_getD, ite_yes, q2, l2, hutG, hfa]
        first | refine AAt.of (SubH.nil) ?_ | (refine ⟨?_, AAt.of (SubH.nil) ?_⟩; · omega)
        refine AAny.one 0 6 (by kernel_rfl) (by kernel_rfl) (by kernel_rfl) ?_
        simp -dsimp -implicitDefEqProofs (disch := omega) [go_sem, -List.getD_eq_getElem?_getD, ite_yes, q2, l2, hutG, hfa]
        refine ACall.via (rE s' _ (G.length + 2) _ (hE.kp Kp.app) hC.kp ((Heap.get_len_add _ _ 2).trans (by rw [eap]; rfl)) (by omega) (by omega) (by omega) (by simp; omega)) ?_
        rintro v G' ⟨rfl, hE', hC', hV', hP'⟩
        simp -dsimp -implicitDefEqProofs (disch := omega) [go_sem, -List.getD_eq_getElem?_getD, ite_yes, q2, l2, hutG, hfa]
        first | refine AAt.of (SubH.nil) ?_ | (refine ⟨?_, AAt.of (SubH.nil) ?_⟩; · omega)
        refine AAny.done (by kernel_rfl) ?_
        simp -dsimp -implicitDefEqProofs (disch := omega) [go_sem, -List.getD_eq_getElem?_getD, ite_yes, q2, l2, hutG, hfa]
        have k1 := hE'.l1
        have k2 := hE'.l2
        have k3 := hE'.l3
        have k4 := hE'.l4
        have k5 := hE'.l5
        have k6 := hE'.l6
        have kP := (hP.trans Kp.app).trans hP'
        have ku : u < G'.length := Nat.lt_of_lt_of_le hut kP.1
        have kV := (hV.trans (VK.app (flat3 (by first | exact trivial | exact (rfl : ([Value.int .i64 (k : Int)] : List Value).all flat = true) | exact nmE_flat _ | exact eap ▸ nmE_flat _) (by first | exact trivial | exact (rfl : ([Value.int .i64 (k : Int)] : List Value).all flat = true) | exact nmE_flat _ | exact eap ▸ nmE_flat _) (by first | exact trivial | exact (rfl : ([Value.int .i64 (k : Int)] : List Value).all flat = true) | exact nmE_flat _ | exact eap ▸ nmE_flat _)))).trans hV'
        exact LoopEnd.of (k + 1, G') ⟨by omega, hE', by rw [e]; exact hC', kV, kP⟩ (by omega) (weakS_vk kV (by simp -dsimp -implicitDefEqProofs (disch := omega) [go_sem, -List.getD_eq_getElem?_getD, ite_yes, k1, k2, k3, k4, k5, k6, ku]))
      · simp -dsimp -implicitDefEqProofs (disch := omega) [go_sem, -List.getD_eq_getElem?_getD, ite_yes, q2, l2, hutG, hfa]
        first | refine ACall.of (copyIntsI_A a (by omega) d _ u hSu) ?_ | refine ACall.of (copyIntsI_A a (by omega) d _ u hSu.app) ?_
        simp -dsimp -implicitDefEqProofs (disch := omega) [go_sem, -List.getD_eq_getElem?_getD, ite_yes, q2, l2, hutG, hfa]
        first | refine AAt.of (SubH.nil) ?_ | (refine ⟨?_, AAt.of (SubH.nil) ?_⟩; · omega)
        refine AAny.two 2 0 5 (by kernel_rfl) (by kernel_rfl) (by kernel_rfl) ?_ ?_
        · simp -dsimp -implicitDefEqProofs (disch := omega) [go_sem, -List.getD_eq_getElem?_getD, ite_yes, q2, l2, hutG, hfa]
          first | refine AAt.of (SubH.nil) ?_ | (refine ⟨?_, AAt.of (SubH.nil) ?_⟩; · omega)
          refine AAny.one 1 5 (by kernel_rfl) (by kernel_rfl) (by kernel_rfl) ?_
          simp -dsimp -implicitDefEqProofs (disch := omega) [go_sem, -List.getD_eq_getElem?_getD, ite_yes, q2, l2, hutG, hfa]
          first | refine AAt.of (SubH.nil) ?_ | (refine ⟨?_, AAt.of (SubH.nil) ?_⟩; · omega)
          refine AAny.one 0 6 (by kernel_rfl) (by kernel_rfl) (by kernel_rfl) ?_
          simp -dsimp -implicitDefEqProofs (disch := omega) [go_sem, -List.getD_eq_getElem?_getD, ite_yes, q2, l2, hutG, hfa]
          refine ACall.via (rE s' _ (G.length + 2) _ (hE.kp Kp.app) hC.kp ((Heap.get_len_add _ _ 2).trans (by rw [eap]; rfl)) (by omega) (by omega) (by omega) (by simp; omega)) ?_
          rintro v G' ⟨rfl, hE', hC', hV', hP'⟩
          simp -dsimp -implicitDefEqProofs (disch := omega) [go_sem, -List.getD_eq_getElem?_getD, ite_yes, q2, l2, hutG, hfa]
          first | refine AAt.of (SubH.nil) ?_ | (refine ⟨?_, AAt.of (SubH.nil) ?_⟩; · omega)
          refine AAny.done (by kernel_rfl) ?_
          simp -dsimp -implicitDefEqProofs (disch := omega) [go_sem, -List.getD_eq_getElem?_getD, ite_yes, q2, l2, hutG, hfa]
          have k1 := hE'.l1
          have k2 := hE'.l2
          have k3 := hE'.l3
          have k4 := hE'.l4
          have k5 := hE'.l5
          have k6 := hE'.l6
          have kP := (hP.trans Kp.app).trans hP'
          have ku : u < G'.length := Nat.lt_of_lt_of_le hut kP.1
          have kV := (hV.trans (VK.app (flat3 (by first | exact trivial | exact (rfl : ([Value.int .i64 (k : Int)] : List Value).all flat = true) | exact nmE_flat _ | exact eap ▸ nmE_flat _) (by first | exact trivial | exact (rfl : ([Value.int .i64 (k : Int)] : List Value).all flat = true) | exact nmE_flat _ | exact eap ▸ nmE_flat _) (by first | exact trivial | exact (rfl : ([Value.int .i64 (k : Int)] : List Value).all flat = true) | exact nmE_flat _ | exact eap ▸ nmE_flat _)))).trans hV'
          exact LoopEnd.of (k + 1, G') ⟨by omega, hE', by rw [e]; exact hC', kV, kP⟩ (by omega) (weakS_vk kV (by simp -dsimp -implicitDefEqProofs (disch := omega) [go_sem, -List.getD_eq_getElem?_getD, ite_yes, k1, k2, k3, k4, k5, k6, ku]))
        · simp -dsimp -implicitDefEqProofs (disch := omega) [go_sem, -List.getD_eq_getElem?_getD, ite_yes, q2, l2, hutG, hfa]
          first | refine AAt.of (SubH.nil) ?_ | (refine ⟨?_, AAt.of (SubH.nil) ?_⟩; · omega)
          refine AAny.one 1 0 (by kernel_rfl) (by kernel_rfl) (by kernel_rfl) ?_
          simp -dsimp -implicitDefEqProofs (disch := omega) [go_sem, -List.getD_eq_getElem?_getD, ite_yes, q2, l2, hutG, hfa]
          first | refine AAt.of (SubH.nil) ?_ | (refine ⟨?_, AAt.of (SubH.nil) ?_⟩; · omega)
          refine AAny.one 0 6 (by kernel_rfl) (by kernel_rfl) (by kernel_rfl) ?_
          simp -dsimp -implicitDefEqProofs (disch := omega) [go_sem, -List.getD_eq_getElem?_getD, ite_yes, q2, l2, hutG, hfa]
          refine ACall.via (rE s' _ (G.length + 2) _ (hE.kp Kp.app) hC.kp ((Heap.get_len_add _ _ 2).trans (by rw [eap]; rfl)) (by omega) (by omega) (by omega) (by simp; omega)) ?_
          rintro v G' ⟨rfl, hE', hC', hV', hP'⟩
          simp -dsimp -implicitDefEqProofs (disch := omega) [go_sem, -List.getD_eq_getElem?_getD, ite_yes, q2, l2, hutG, hfa]
          first | refine AAt.of (SubH.nil) ?_ | (refine ⟨?_, AAt.of (SubH.nil) ?_⟩; · omega)
          refine AAny.done (by kernel_rfl) ?_
          simp -dsimp -implicitDefEqProofs (disch := omega) [go_sem, -List.getD_eq_getElem?_getD, ite_yes, q2, l2, hutG, hfa]
          have k1 := hE'.l1
          have k2 := hE'.l2
          have k3 := hE'.l3
          have k4 := hE'.l4
          have k5 := hE'.l5
          have k6 := hE'.l6
          have kP := (hP.trans Kp.app).trans hP'
          have ku : u < G'.length := Nat.lt_of_lt_of_le hut kP.1
          have kV := (hV.trans (VK.app (flat3 (by first | exact trivial | exact (rfl : ([Value.int .i64 (k : Int)] : List Value).all flat = true) | exact nmE_flat _ | exact eap ▸ nmE_flat _) (by first | exact trivial | exact (rfl : ([Value.int .i64 (k : Int)] : List Value).all flat = true) | exact nmE_flat _ | exact eap ▸ nmE_flat _) (by first | exact trivial | exact (rfl : ([Value.int .i64 (k : Int)] : List Value).all flat = true) | exact nmE_flat _ | exact eap ▸ nmE_flat _)))).trans hV'
          exact LoopEnd.of (k + 1, G') ⟨by omega, hE', by rw [e]; exact hC', kV, kP⟩ (by omega) (weakS_vk kV (by simp -dsimp -implicitDefEqProofs (disch := omega) [go_sem, -List.getD_eq_getElem?_getD, ite_yes, k1, k2, k3, k4, k5, k6, ku]))
end Go.Proofs.Ytkjgmppcgcimgaa
