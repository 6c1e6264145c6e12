/- NewlyWet as the program walks. -/
import Derived.Test.YtamkdgjagjpmlaaGentle2
import Derived.Test.YtamkdgjagjpmlaaNwP
import Derived.Test.YtamkdgjagjpmlaaRwL
import Derived.Test.YtamkdgjagjpmlaaOrder
namespace Go.Proofs.Ytamkdgjagjpmlaa
open Go.Am
set_option linter.unusedVariables false
set_option linter.unusedSimpArgs false
set_option maxRecDepth 100000
set_option maxHeartbeats 8000000
/-- what NewlyWet hands out -/
def NwOut (H : Heap) (W : List (List Int)) (v : Value) (G : Heap) : Prop :=
  ∃ (R : List Rw) (u : Nat), v = .tuple #[.slice (some ⟨u, 0, none⟩) R.length 0, .bool true] ∧ R.map (·.2.2) = W ∧ RowsAt G H.length u R ∧ VK H G ∧ KQ H G
structure NwSt where
  k : Nat
  u : Nat
  R : List Rw
  G : Heap
structure NwInv (n : Int) (ps : List Pp) (l : List Vl) (src : Int) (a : List Int) (tp cp : Nat) (H : Heap) (i : NwSt) : Prop where
  le : i.k ≤ a.length
  rl : i.R.length = i.k
  rw : i.R.map (·.2.2) = nwL n ps l src a i.k
  rows : RowsAt i.G (H.length + 1) i.u i.R
  vk : VK H i.G
  kq : KQ H i.G
  net : aCells i.G ⟨H.length, 0, none⟩ 2 = some [.int .i64 n, .slice (some ⟨tp, 0, none⟩) ps.length cp]
  net0 : aCells i.G ⟨H.length, 0, none⟩ 1 = some [.int .i64 n]
  lt : H.length < i.G.length
theorem NwInv.start (n : Int) (ps : List Pp) (l : List Vl) (src : Int) (a : List Int) (tp cp : Nat) (H : Heap) (ht : tp < H.length) :
    NwInv n ps l src a tp cp H ⟨0, H.length + 1, [], H ++ [some ⟨[.int .i64 n, .slice (some ⟨tp, 0, none⟩) ps.length cp], true, 34, 1⟩, some ⟨[], true, 26, 1⟩]⟩ := by
  refine ⟨by simp, rfl, rfl, RowsAt.nil ((Heap.get_len_add _ _ 1).trans rfl) (Nat.le_refl _), ?_, KQ.app, by simp -dsimp -implicitDefEqProofs (disch := omega) [go_sem, -List.getD_eq_getElem?_getD, ite_yes], by simp -dsimp -implicitDefEqProofs (disch := omega) [go_sem, -List.getD_eq_getElem?_getD, ite_yes], by simp⟩
  have h1 := VK.snoc (K := H) (b := ⟨[.int .i64 n, .slice (some ⟨tp, 0, none⟩) ps.length cp], true, 34, 1⟩) (wm_net (h := H.length) ht _ _ (fun t ht => by simp [sg]; omega) (by omega))
  have h2 := VK.snoc (K := H ++ [some ⟨[.int .i64 n, .slice (some ⟨tp, 0, none⟩) ps.length cp], true, 34, 1⟩]) (b := ⟨[], true, 26, 1⟩) trivial
  have := h1.trans h2
  rwa [List.append_assoc] at this
theorem NwInv.next {n : Int} {ps : List Pp} {l : List Vl} {src : Int} {a : List Int} {tp cp : Nat} {H : Heap} {i : NwSt} (h : NwInv n ps l src a tp cp H i) (hk : i.k < a.length) (c : Nat) :
    NwInv n ps l src a tp cp H ⟨i.k + 1, i.G.length + 1, i.R ++ [(i.G.length, c, nwF n ps l src a i.k)], i.G.set i.u none ++ [some ⟨(nwF n ps l src a i.k).flatMap nmE, true, 3, 1⟩, some ⟨(i.R ++ [(i.G.length, c, nwF n ps l src a i.k)]).flatMap rwE, true, 26, 1⟩]⟩ := by
  have h1 := h.lt
  have h2 := h.rows.lo
  have hl : (i.G.set i.u none).length = i.G.length := by simp
  have hg : ∀ t, t < i.G.length → t ≠ i.u → Heap.get (i.G.set i.u none ++ [some ⟨(nwF n ps l src a i.k).flatMap nmE, true, 3, 1⟩, some ⟨(i.R ++ [(i.G.length, c, nwF n ps l src a i.k)]).flatMap rwE, true, 26, 1⟩]) t = i.G.get t := fun t ht hu => (Heap.get_append_left (by rw [hl]; exact ht)).trans (get_unset hu)
  refine ⟨by show i.k + 1 ≤ a.length; omega, by simp [h.rl], by simp [h.rw, nwL], h.rows.snoc (by omega), vk_rows h.vk h.rows, ⟨by have := h.kq.1; simp; omega, fun t ht => (hg t (by omega) (by omega)).trans (h.kq.2 t ht)⟩, ?_, ?_, by simp; omega⟩
  · exact (cells_of (hg _ h1 (by omega))).trans h.net
  · exact (cells_of (hg _ h1 (by omega))).trans h.net0
theorem rwE_map (R : List Rw) : R.map (fun r : Rw => Value.slice (some ⟨r.1, 0, none⟩) r.2.2.length r.2.1) = R.flatMap rwE := by
  induction R with
  | nil => rfl
  | cons x l ih => rw [List.map_cons, List.flatMap_cons, ih]; rfl
/-- the new spine is the old one and a row more, however the blocks are numbered -/
theorem wl_spine {K : Heap} {c d p : Nat} {R : List Rw} {l : List Int} {js : List (Option Nat)} {q : Nat} (hR : ∀ r ∈ R, r.1 < K.length) (hj : sg K.length js K.length = some (K.length + p)) (hs : ∀ t, t < K.length → sg K.length js t = some t) (hq : 1 ≤ q) :
    WL (sg K.length js) (K.length + q) (R.flatMap rwE ++ rwE (K.length, c, l)) (R.flatMap rwE ++ [.slice (some ⟨K.length + p, 0, none⟩) l.length d]) := by
  have h1 : L2 (WM (sg K.length js) (K.length + q)) (R.flatMap rwE) (R.flatMap rwE) := wm_rows (n := K.length) hs (by omega) hR
  have h2 : L2 (WM (sg K.length js) (K.length + q)) [Value.slice (some ⟨K.length, 0, none⟩) l.length c] [Value.slice (some ⟨K.length + p, 0, none⟩) l.length d] :=
    ⟨⟨by show K.length < K.length + q; omega, .inl ⟨_, d, hj, rfl⟩⟩, trivial⟩
  refine .inr ?_
  rw [List.take_of_length_le (by simp [rwE])]
  exact h1.append h2
theorem iNewly_R (n : Int) (ps : List Pp) (cp : Nat) (l : List Vl) (c : Nat) (src : Int) (a : List Int) (ho : isOrd n ps l src a = true) (d : Nat) (H : Heap) (tp t u : Nat) (hP : Sl ppE H tp ps) (hS : Sl vlE H t l) (hU : Sl nmE H u a) :
    AFunR Try.prog 10 [netV n tp ps.length cp, .slice (some ⟨t, 0, none⟩) l.length c, .int .i64 src, .slice (some ⟨u, 0, none⟩) a.length d] H (NwOut H (nwL n ps l src a a.length)) := by
  refine AFunR.of_body Try.func10 (by kernel_rfl) rfl (by kernel_rfl) (by simp [Try.ntmps10]) ?_
  have htp := hP.lt
  have ht := hS.lt
  have hu := hU.lt
  have ho' := ho
  unfold isOrd at ho'
  rw [Bool.and_eq_true] at ho'
  obtain ⟨hq, hob⟩ := ho'
  obtain ⟨hg, hN, hl10, hsrc, hs6⟩ := askR_at hq
  have hpl := hN.f_len
  have hn := hN.f_n
  have hperm := ordB_perm hob
  have hal := hperm.length_eq
  simp -dsimp -implicitDefEqProofs (disch := omega) [go_sem, -List.getD_eq_getElem?_getD, ite_yes, htp, ht, hu]
  refine ACall.of (iIsOrder_A n ps (by omega) cp l (by omega) c src a (by omega) d _ tp t u hP.app hS.app hU.app) ?_
  simp -dsimp -implicitDefEqProofs (disch := omega) [go_sem, -List.getD_eq_getElem?_getD, ite_yes, ho, htp, ht, hu]
  refine ALoop.intro (ι := NwSt) (fun i => NwInv n ps l src a tp cp H i) (fun i => [(1, .slice (some ⟨t, 0, none⟩) l.length c), (2, .int .i64 src), (3, .slice (some ⟨u, 0, none⟩) a.length d), (4, .pointer (some ⟨H.length, 0, none⟩)), (10, .slice (some ⟨i.u, 0, none⟩) i.R.length 0), (24, .int .i64 a.length), (25, .int .i64 i.k)]) (fun i => i.G) (fun i => a.length - i.k) _ (NwInv.start n ps l src a tp cp H htp) ?_ ?_
  · exact weakS_vk (NwInv.start n ps l src a tp cp H htp).vk (by simp -dsimp -implicitDefEqProofs (disch := omega) [go_sem, -List.getD_eq_getElem?_getD, ite_yes, htp, ht, hu])
  intro i hi
  have nx := fun hk => hi.next hk 0
  obtain ⟨k, us, R, G⟩ := i
  have hk := hi.le
  have hrl := hi.rl
  have hrows := hi.rows
  have hV := hi.vk
  have hQ := hi.kq
  have cnet := hi.net
  have cnet0 := hi.net0
  have klt := hi.lt
  have hrw := hi.rw
  simp only at hk hrl hrows hV hQ cnet cnet0 klt hrw nx ⊢
  have gtp : tp < G.length := by omega
  have gt : t < G.length := by omega
  have gu : u < G.length := by omega
  have gus := hrows.lt
  have gP := hQ.sl hP
  have gS := hQ.sl hS
  have gU := hQ.sl hU
  by_cases hlt : k < a.length
  rotate_left
  · obtain rfl : k = a.length := by omega
    simp -dsimp -implicitDefEqProofs (disch := omega) [go_sem, -List.getD_eq_getElem?_getD, ite_yes, hlt]
    exact EndR.of (.tuple #[.slice (some ⟨us, 0, none⟩) R.length 0, .bool true]) G ⟨R, us, rfl, hrw, hrows.le (by omega), hV, hQ⟩ (fin_vk hV (by simp -dsimp -implicitDefEqProofs (disch := omega) [go_sem, -List.getD_eq_getElem?_getD, ite_yes, gus]))
  have hk1 : ((k : Int) + 1).toNat = k + 1 := by omega
  have hki : (k : Int) + 1 ≤ (a.length : Int) := by omega
  have hlti : (k : Int) < (a.length : Int) := by omega
  have en : nwF n ps l src a k = nwTo (wetR ps (opL l (a.take k)) src) (wetR ps (opL l (a.take (k + 1))) src) n.toNat := rfl
  have o1 := wateredO_A n ps cp l hg 0 src hsrc (a.take k)
  have o2 := wateredO_A n ps cp l hg 0 src hsrc (a.take (k + 1))
  have hl1 := wetR_length hN (opL l (a.take k)) src
  have hl2 := wetR_length hN (opL l (a.take (k + 1))) src
  generalize nwF n ps l src a k = F at *
  generalize hRa : wetR ps (opL l (a.take k)) src = R1 at *
  generalize hRb : wetR ps (opL l (a.take (k + 1))) src = R2 at *
  simp -dsimp -implicitDefEqProofs (disch := omega) [go_sem, -List.getD_eq_getElem?_getD, ite_yes, hlt, hlti]
  refine ADraw.mid [(1, .slice (some ⟨t, 0, none⟩) l.length c), (2, .int .i64 src), (3, .slice (some ⟨u, 0, none⟩) a.length d), (4, .pointer (some ⟨H.length, 0, none⟩)), (10, .slice (some ⟨us, 0, none⟩) R.length 0), (24, .int .i64 a.length), (25, .int .i64 k), (12, .pointer (some ⟨G.length, 0, none⟩)), (13, .pointer (some ⟨G.length + 1, 0, none⟩))] (G ++ [some ⟨R1.map .bool, true, 85, 1⟩, some ⟨R2.map .bool, true, 85, 1⟩]) ?_ ?_
  · skip
    refine ADraw.any G (by kernel_rfl) (SubH.refl) ?_
    refine AAny.takes (fuel := 8) (by kernel_rfl) (by kernel_rfl) [1, 2, 3, 4, 6, 9, 10, 11, 12, 13, 15] (by kernel_rfl) (by kernel_rfl) ?_
    simp -dsimp -implicitDefEqProofs (disch := omega) [go_sem, -List.getD_eq_getElem?_getD, ite_yes, hlt, hlti, hk1, hki, cnet, klt, gtp, gt, gu, gus]
    refine AAny.three 7 0 5 8 (by kernel_rfl) (by kernel_rfl) (by kernel_rfl) ?_ ?_ ?_
    · simp -dsimp -implicitDefEqProofs (disch := omega) [go_sem, -List.getD_eq_getElem?_getD, ite_yes, hlt, hlti, hk1, hki, cnet, klt, gtp, gt, gu, gus]
      first | refine AAt.of (by first | exact SubH.refl | exact SubH.app) ?_ | (refine ⟨?_, AAt.of (by first | exact SubH.refl | exact SubH.app) ?_⟩; · omega)
      refine AAny.two 6 5 8 (by kernel_rfl) (by kernel_rfl) (by kernel_rfl) ?_ ?_
      · simp -dsimp -implicitDefEqProofs (disch := omega) [go_sem, -List.getD_eq_getElem?_getD, ite_yes, hlt, hlti, hk1, hki, cnet, klt, gtp, gt, gu, gus]
        first | refine ACall.of (openedT_A l (by omega) c a k hk (by omega) k _ t u gS.app gU.app) ?_ | refine ACall.of (openedT_A l (by omega) c a k hk (by omega) k _ t u gS gU) ?_
        simp -dsimp -implicitDefEqProofs (disch := omega) [go_sem, -List.getD_eq_getElem?_getD, ite_yes, hlt, hlti, hk1, hki, cnet, klt, gtp, gt, gu, gus]
        first | refine AAt.of (by first | exact SubH.refl | exact SubH.app) ?_ | (refine ⟨?_, AAt.of (by first | exact SubH.refl | exact SubH.app) ?_⟩; · omega)
        refine AAny.two 5 7 8 (by kernel_rfl) (by kernel_rfl) (by kernel_rfl) ?_ ?_
        · simp -dsimp -implicitDefEqProofs (disch := omega) [go_sem, -List.getD_eq_getElem?_getD, ite_yes, hlt, hlti, hk1, hki, cnet, klt, gtp, gt, gu, gus]
          refine ACall.of (o1 _ tp _ gP.app (by first | exact Sl.of rfl | exact Sl.nth 1 rfl rfl | exact Sl.nth 2 rfl rfl)) ?_
          simp -dsimp -implicitDefEqProofs (disch := omega) [go_sem, -List.getD_eq_getElem?_getD, ite_yes, hlt, hlti, hk1, hki, cnet, klt, gtp, gt, gu, gus]
          first | refine AAt.of (by first | exact SubH.refl | exact SubH.app) ?_ | (refine ⟨?_, AAt.of (by first | exact SubH.refl | exact SubH.app) ?_⟩; · omega)
          refine AAny.two 4 8 14 (by kernel_rfl) (by kernel_rfl) (by kernel_rfl) ?_ ?_
          · simp -dsimp -implicitDefEqProofs (disch := omega) [go_sem, -List.getD_eq_getElem?_getD, ite_yes, hlt, hlti, hk1, hki, cnet, klt, gtp, gt, gu, gus]
            first | refine AAt.of (by first | exact SubH.refl | exact SubH.app) ?_ | (refine ⟨?_, AAt.of (by first | exact SubH.refl | exact SubH.app) ?_⟩; · omega)
            refine AAny.one 3 14 (by kernel_rfl) (by kernel_rfl) (by kernel_rfl) ?_
            simp -dsimp -implicitDefEqProofs (disch := omega) [go_sem, -List.getD_eq_getElem?_getD, ite_yes, hlt, hlti, hk1, hki, cnet, klt, gtp, gt, gu, gus]
            first | refine ACall.of (openedT_A l (by omega) c a (k + 1) hlt (by omega) (k + 1) _ t u gS.app gU.app) ?_ | refine ACall.of (openedT_A l (by omega) c a (k + 1) hlt (by omega) (k + 1) _ t u gS gU) ?_
            simp -dsimp -implicitDefEqProofs (disch := omega) [go_sem, -List.getD_eq_getElem?_getD, ite_yes, hlt, hlti, hk1, hki, cnet, klt, gtp, gt, gu, gus]
            first | refine AAt.of (by first | exact SubH.refl | exact SubH.app) ?_ | (refine ⟨?_, AAt.of (by first | exact SubH.refl | exact SubH.app) ?_⟩; · omega)
            refine AAny.one 2 16 (by kernel_rfl) (by kernel_rfl) (by kernel_rfl) ?_
            simp -dsimp -implicitDefEqProofs (disch := omega) [go_sem, -List.getD_eq_getElem?_getD, ite_yes, hlt, hlti, hk1, hki, cnet, klt, gtp, gt, gu, gus]
            refine ACall.of (o2 _ tp _ gP.app (by first | exact Sl.of rfl | exact Sl.nth 1 rfl rfl | exact Sl.nth 2 rfl rfl)) ?_
            simp -dsimp -implicitDefEqProofs (disch := omega) [go_sem, -List.getD_eq_getElem?_getD, ite_yes, hlt, hlti, hk1, hki, cnet, klt, gtp, gt, gu, gus]
            first | refine AAt.of (by first | exact SubH.refl | exact SubH.app) ?_ | (refine ⟨?_, AAt.of (by first | exact SubH.refl | exact SubH.app) ?_⟩; · omega)
            refine AAny.takes (fuel := 0) (by kernel_rfl) (by kernel_rfl) [17, 18] (by kernel_rfl) (by kernel_rfl) ?_
            simp -dsimp -implicitDefEqProofs (disch := omega) [go_sem, -List.getD_eq_getElem?_getD, ite_yes, hlt, hlti, hk1, hki, cnet, klt, gtp, gt, gu, gus]
            refine AAny.done (by kernel_rfl) ?_
            simp -dsimp -implicitDefEqProofs (disch := omega) [go_sem, -List.getD_eq_getElem?_getD, ite_yes, hlt, hlti, hk1, hki, cnet, klt, gtp, gt, gu, gus]
            first | exact ⟨weakS_vmk hV [some 1, some 3] rfl (by simp -dsimp -implicitDefEqProofs (disch := omega) [go_sem, -List.getD_eq_getElem?_getD, ite_yes]; exact ⟨.inl ⟨rfl, bl_flat _⟩, .inl ⟨rfl, bl_flat _⟩⟩) (by simp -dsimp -implicitDefEqProofs (disch := omega) [go_sem, -List.getD_eq_getElem?_getD, ite_yes, gtp, gt, gu, gus, klt])⟩ | exact ⟨weakS_vmk hV [some 2, some 3] rfl (by simp -dsimp -implicitDefEqProofs (disch := omega) [go_sem, -List.getD_eq_getElem?_getD, ite_yes]; exact ⟨.inl ⟨rfl, bl_flat _⟩, .inl ⟨rfl, bl_flat _⟩⟩) (by simp -dsimp -implicitDefEqProofs (disch := omega) [go_sem, -List.getD_eq_getElem?_getD, ite_yes, gtp, gt, gu, gus, klt])⟩ | exact ⟨weakS_vmk hV [some 3, some 2] rfl (by simp -dsimp -implicitDefEqProofs (disch := omega) [go_sem, -List.getD_eq_getElem?_getD, ite_yes]; exact ⟨.inl ⟨rfl, bl_flat _⟩, .inl ⟨rfl, bl_flat _⟩⟩) (by simp -dsimp -implicitDefEqProofs (disch := omega) [go_sem, -List.getD_eq_getElem?_getD, ite_yes, gtp, gt, gu, gus, klt])⟩ | exact ⟨weakS_vmk hV [some 3, some 1] rfl (by simp -dsimp -implicitDefEqProofs (disch := omega) [go_sem, -List.getD_eq_getElem?_getD, ite_yes]; exact ⟨.inl ⟨rfl, bl_flat _⟩, .inl ⟨rfl, bl_flat _⟩⟩) (by simp -dsimp -implicitDefEqProofs (disch := omega) [go_sem, -List.getD_eq_getElem?_getD, ite_yes, gtp, gt, gu, gus, klt])⟩
          · simp -dsimp -implicitDefEqProofs (disch := omega) [go_sem, -List.getD_eq_getElem?_getD, ite_yes, hlt, hlti, hk1, hki, cnet, klt, gtp, gt, gu, gus]
            first | refine ACall.of (openedT_A l (by omega) c a (k + 1) hlt (by omega) (k + 1) _ t u gS.app gU.app) ?_ | refine ACall.of (openedT_A l (by omega) c a (k + 1) hlt (by omega) (k + 1) _ t u gS gU) ?_
            simp -dsimp -implicitDefEqProofs (disch := omega) [go_sem, -List.getD_eq_getElem?_getD, ite_yes, hlt, hlti, hk1, hki, cnet, klt, gtp, gt, gu, gus]
            first | refine AAt.of (by first | exact SubH.refl | exact SubH.app) ?_ | (refine ⟨?_, AAt.of (by first | exact SubH.refl | exact SubH.app) ?_⟩; · omega)
            refine AAny.one 3 8 (by kernel_rfl) (by kernel_rfl) (by kernel_rfl) ?_
            simp -dsimp -implicitDefEqProofs (disch := omega) [go_sem, -List.getD_eq_getElem?_getD, ite_yes, hlt, hlti, hk1, hki, cnet, klt, gtp, gt, gu, gus]
            first | refine AAt.of (by first | exact SubH.refl | exact SubH.app) ?_ | (refine ⟨?_, AAt.of (by first | exact SubH.refl | exact SubH.app) ?_⟩; · omega)
            refine AAny.one 2 16 (by kernel_rfl) (by kernel_rfl) (by kernel_rfl) ?_
            simp -dsimp -implicitDefEqProofs (disch := omega) [go_sem, -List.getD_eq_getElem?_getD, ite_yes, hlt, hlti, hk1, hki, cnet, klt, gtp, gt, gu, gus]
            refine ACall.of (o2 _ tp _ gP.app (by first | exact Sl.of rfl | exact Sl.nth 1 rfl rfl | exact Sl.nth 2 rfl rfl)) ?_
            simp -dsimp -implicitDefEqProofs (disch := omega) [go_sem, -List.getD_eq_getElem?_getD, ite_yes, hlt, hlti, hk1, hki, cnet, klt, gtp, gt, gu, gus]
            first | refine AAt.of (by first | exact SubH.refl | exact SubH.app) ?_ | (refine ⟨?_, AAt.of (by first | exact SubH.refl | exact SubH.app) ?_⟩; · omega)
            refine AAny.takes (fuel := 0) (by kernel_rfl) (by kernel_rfl) [17, 18] (by kernel_rfl) (by kernel_rfl) ?_
            simp -dsimp -implicitDefEqProofs (disch := omega) [go_sem, -List.getD_eq_getElem?_getD, ite_yes, hlt, hlti, hk1, hki, cnet, klt, gtp, gt, gu, gus]
            refine AAny.done (by kernel_rfl) ?_
            simp -dsimp -implicitDefEqProofs (disch := omega) [go_sem, -List.getD_eq_getElem?_getD, ite_yes, hlt, hlti, hk1, hki, cnet, klt, gtp, gt, gu, gus]
            first | exact ⟨weakS_vmk hV [some 1, some 3] rfl (by simp -dsimp -implicitDefEqProofs (disch := omega) [go_sem, -List.getD_eq_getElem?_getD, ite_yes]; exact ⟨.inl ⟨rfl, bl_flat _⟩, .inl ⟨rfl, bl_flat _⟩⟩) (by simp -dsimp -implicitDefEqProofs (disch := omega) [go_sem, -List.getD_eq_getElem?_getD, ite_yes, gtp, gt, gu, gus, klt])⟩ | exact ⟨weakS_vmk hV [some 2, some 3] rfl (by simp -dsimp -implicitDefEqProofs (disch := omega) [go_sem, -List.getD_eq_getElem?_getD, ite_yes]; exact ⟨.inl ⟨rfl, bl_flat _⟩, .inl ⟨rfl, bl_flat _⟩⟩) (by simp -dsimp -implicitDefEqProofs (disch := omega) [go_sem, -List.getD_eq_getElem?_getD, ite_yes, gtp, gt, gu, gus, klt])⟩ | exact ⟨weakS_vmk hV [some 3, some 2] rfl (by simp -dsimp -implicitDefEqProofs (disch := omega) [go_sem, -List.getD_eq_getElem?_getD, ite_yes]; exact ⟨.inl ⟨rfl, bl_flat _⟩, .inl ⟨rfl, bl_flat _⟩⟩) (by simp -dsimp -implicitDefEqProofs (disch := omega) [go_sem, -List.getD_eq_getElem?_getD, ite_yes, gtp, gt, gu, gus, klt])⟩ | exact ⟨weakS_vmk hV [some 3, some 1] rfl (by simp -dsimp -implicitDefEqProofs (disch := omega) [go_sem, -List.getD_eq_getElem?_getD, ite_yes]; exact ⟨.inl ⟨rfl, bl_flat _⟩, .inl ⟨rfl, bl_flat _⟩⟩) (by simp -dsimp -implicitDefEqProofs (disch := omega) [go_sem, -List.getD_eq_getElem?_getD, ite_yes, gtp, gt, gu, gus, klt])⟩
        · simp -dsimp -implicitDefEqProofs (disch := omega) [go_sem, -List.getD_eq_getElem?_getD, ite_yes, hlt, hlti, hk1, hki, cnet, klt, gtp, gt, gu, gus]
          first | refine AAt.of (by first | exact SubH.refl | exact SubH.app) ?_ | (refine ⟨?_, AAt.of (by first | exact SubH.refl | exact SubH.app) ?_⟩; · omega)
          refine AAny.one 4 7 (by kernel_rfl) (by kernel_rfl) (by kernel_rfl) ?_
          simp -dsimp -implicitDefEqProofs (disch := omega) [go_sem, -List.getD_eq_getElem?_getD, ite_yes, hlt, hlti, hk1, hki, cnet, klt, gtp, gt, gu, gus]
          refine ACall.of (o1 _ tp _ gP.app (by first | exact Sl.of rfl | exact Sl.nth 1 rfl rfl | exact Sl.nth 2 rfl rfl)) ?_
          simp -dsimp -implicitDefEqProofs (disch := omega) [go_sem, -List.getD_eq_getElem?_getD, ite_yes, hlt, hlti, hk1, hki, cnet, klt, gtp, gt, gu, gus]
          first | refine AAt.of (by first | exact SubH.refl | exact SubH.app) ?_ | (refine ⟨?_, AAt.of (by first | exact SubH.refl | exact SubH.app) ?_⟩; · omega)
          refine AAny.one 3 14 (by kernel_rfl) (by kernel_rfl) (by kernel_rfl) ?_
          simp -dsimp -implicitDefEqProofs (disch := omega) [go_sem, -List.getD_eq_getElem?_getD, ite_yes, hlt, hlti, hk1, hki, cnet, klt, gtp, gt, gu, gus]
          first | refine ACall.of (openedT_A l (by omega) c a (k + 1) hlt (by omega) (k + 1) _ t u gS.app gU.app) ?_ | refine ACall.of (openedT_A l (by omega) c a (k + 1) hlt (by omega) (k + 1) _ t u gS gU) ?_
          simp -dsimp -implicitDefEqProofs (disch := omega) [go_sem, -List.getD_eq_getElem?_getD, ite_yes, hlt, hlti, hk1, hki, cnet, klt, gtp, gt, gu, gus]
          first | refine AAt.of (by first | exact SubH.refl | exact SubH.app) ?_ | (refine ⟨?_, AAt.of (by first | exact SubH.refl | exact SubH.app) ?_⟩; · omega)
          refine AAny.one 2 16 (by kernel_rfl) (by kernel_rfl) (by kernel_rfl) ?_
          simp -dsimp -implicitDefEqProofs (disch := omega) [go_sem, -List.getD_eq_getElem?_getD, ite_yes, hlt, hlti, hk1, hki, cnet, klt, gtp, gt, gu, gus]
          refine ACall.of (o2 _ tp _ gP.app (by first | exact Sl.of rfl | exact Sl.nth 1 rfl rfl | exact Sl.nth 2 rfl rfl)) ?_
          simp -dsimp -implicitDefEqProofs (disch := omega) [go_sem, -List.getD_eq_getElem?_getD, ite_yes, hlt, hlti, hk1, hki, cnet, klt, gtp, gt, gu, gus]
          first | refine AAt.of (by first | exact SubH.refl | exact SubH.app) ?_ | (refine ⟨?_, AAt.of (by first | exact SubH.refl | exact SubH.app) ?_⟩; · omega)
          refine AAny.takes (fuel := 0) (by kernel_rfl) (by kernel_rfl) [17, 18] (by kernel_rfl) (by kernel_rfl) ?_
          simp -dsimp -implicitDefEqProofs (disch := omega) [go_sem, -List.getD_eq_getElem?_getD, ite_yes, hlt, hlti, hk1, hki, cnet, klt, gtp, gt, gu, gus]
          refine AAny.done (by kernel_rfl) ?_
          simp -dsimp -implicitDefEqProofs (disch := omega) [go_sem, -List.getD_eq_getElem?_getD, ite_yes, hlt, hlti, hk1, hki, cnet, klt, gtp, gt, gu, gus]
          first | exact ⟨weakS_vmk hV [some 1, some 3] rfl (by simp -dsimp -implicitDefEqProofs (disch := omega) [go_sem, -List.getD_eq_getElem?_getD, ite_yes]; exact ⟨.inl ⟨rfl, bl_flat _⟩, .inl ⟨rfl, bl_flat _⟩⟩) (by simp -dsimp -implicitDefEqProofs (disch := omega) [go_sem, -List.getD_eq_getElem?_getD, ite_yes, gtp, gt, gu, gus, klt])⟩ | exact ⟨weakS_vmk hV [some 2, some 3] rfl (by simp -dsimp -implicitDefEqProofs (disch := omega) [go_sem, -List.getD_eq_getElem?_getD, ite_yes]; exact ⟨.inl ⟨rfl, bl_flat _⟩, .inl ⟨rfl, bl_flat _⟩⟩) (by simp -dsimp -implicitDefEqProofs (disch := omega) [go_sem, -List.getD_eq_getElem?_getD, ite_yes, gtp, gt, gu, gus, klt])⟩ | exact ⟨weakS_vmk hV [some 3, some 2] rfl (by simp -dsimp -implicitDefEqProofs (disch := omega) [go_sem, -List.getD_eq_getElem?_getD, ite_yes]; exact ⟨.inl ⟨rfl, bl_flat _⟩, .inl ⟨rfl, bl_flat _⟩⟩) (by simp -dsimp -implicitDefEqProofs (disch := omega) [go_sem, -List.getD_eq_getElem?_getD, ite_yes, gtp, gt, gu, gus, klt])⟩ | exact ⟨weakS_vmk hV [some 3, some 1] rfl (by simp -dsimp -implicitDefEqProofs (disch := omega) [go_sem, -List.getD_eq_getElem?_getD, ite_yes]; exact ⟨.inl ⟨rfl, bl_flat _⟩, .inl ⟨rfl, bl_flat _⟩⟩) (by simp -dsimp -implicitDefEqProofs (disch := omega) [go_sem, -List.getD_eq_getElem?_getD, ite_yes, gtp, gt, gu, gus, klt])⟩
      · simp -dsimp -implicitDefEqProofs (disch := omega) [go_sem, -List.getD_eq_getElem?_getD, ite_yes, hlt, hlti, hk1, hki, cnet, klt, gtp, gt, gu, gus]
        first | refine AAt.of (by first | exact SubH.refl | exact SubH.app) ?_ | (refine ⟨?_, AAt.of (by first | exact SubH.refl | exact SubH.app) ?_⟩; · omega)
        refine AAny.one 5 5 (by kernel_rfl) (by kernel_rfl) (by kernel_rfl) ?_
        simp -dsimp -implicitDefEqProofs (disch := omega) [go_sem, -List.getD_eq_getElem?_getD, ite_yes, hlt, hlti, hk1, hki, cnet, klt, gtp, gt, gu, gus]
        first | refine ACall.of (openedT_A l (by omega) c a k hk (by omega) k _ t u gS.app gU.app) ?_ | refine ACall.of (openedT_A l (by omega) c a k hk (by omega) k _ t u gS gU) ?_
        simp -dsimp -implicitDefEqProofs (disch := omega) [go_sem, -List.getD_eq_getElem?_getD, ite_yes, hlt, hlti, hk1, hki, cnet, klt, gtp, gt, gu, gus]
        first | refine AAt.of (by first | exact SubH.refl | exact SubH.app) ?_ | (refine ⟨?_, AAt.of (by first | exact SubH.refl | exact SubH.app) ?_⟩; · omega)
        refine AAny.one 4 7 (by kernel_rfl) (by kernel_rfl) (by kernel_rfl) ?_
        simp -dsimp -implicitDefEqProofs (disch := omega) [go_sem, -List.getD_eq_getElem?_getD, ite_yes, hlt, hlti, hk1, hki, cnet, klt, gtp, gt, gu, gus]
        refine ACall.of (o1 _ tp _ gP.app (by first | exact Sl.of rfl | exact Sl.nth 1 rfl rfl | exact Sl.nth 2 rfl rfl)) ?_
        simp -dsimp -implicitDefEqProofs (disch := omega) [go_sem, -List.getD_eq_getElem?_getD, ite_yes, hlt, hlti, hk1, hki, cnet, klt, gtp, gt, gu, gus]
        first | refine AAt.of (by first | exact SubH.refl | exact SubH.app) ?_ | (refine ⟨?_, AAt.of (by first | exact SubH.refl | exact SubH.app) ?_⟩; · omega)
        refine AAny.one 3 14 (by kernel_rfl) (by kernel_rfl) (by kernel_rfl) ?_
        simp -dsimp -implicitDefEqProofs (disch := omega) [go_sem, -List.getD_eq_getElem?_getD, ite_yes, hlt, hlti, hk1, hki, cnet, klt, gtp, gt, gu, gus]
        first | refine ACall.of (openedT_A l (by omega) c a (k + 1) hlt (by omega) (k + 1) _ t u gS.app gU.app) ?_ | refine ACall.of (openedT_A l (by omega) c a (k + 1) hlt (by omega) (k + 1) _ t u gS gU) ?_
        simp -dsimp -implicitDefEqProofs (disch := omega) [go_sem, -List.getD_eq_getElem?_getD, ite_yes, hlt, hlti, hk1, hki, cnet, klt, gtp, gt, gu, gus]
        first | refine AAt.of (by first | exact SubH.refl | exact SubH.app) ?_ | (refine ⟨?_, AAt.of (by first | exact SubH.refl | exact SubH.app) ?_⟩; · omega)
        refine AAny.one 2 16 (by kernel_rfl) (by kernel_rfl) (by kernel_rfl) ?_
        simp -dsimp -implicitDefEqProofs (disch := omega) [go_sem, -List.getD_eq_getElem?_getD, ite_yes, hlt, hlti, hk1, hki, cnet, klt, gtp, gt, gu, gus]
        refine ACall.of (o2 _ tp _ gP.app (by first | exact Sl.of rfl | exact Sl.nth 1 rfl rfl | exact Sl.nth 2 rfl rfl)) ?_
        simp -dsimp -implicitDefEqProofs (disch := omega) [go_sem, -List.getD_eq_getElem?_getD, ite_yes, hlt, hlti, hk1, hki, cnet, klt, gtp, gt, gu, gus]
        first | refine AAt.of (by first | exact SubH.refl | exact SubH.app) ?_ | (refine ⟨?_, AAt.of (by first | exact SubH.refl | exact SubH.app) ?_⟩; · omega)
        refine AAny.takes (fuel := 0) (by kernel_rfl) (by kernel_rfl) [17, 18] (by kernel_rfl) (by kernel_rfl) ?_
        simp -dsimp -implicitDefEqProofs (disch := omega) [go_sem, -List.getD_eq_getElem?_getD, ite_yes, hlt, hlti, hk1, hki, cnet, klt, gtp, gt, gu, gus]
        refine AAny.done (by kernel_rfl) ?_
        simp -dsimp -implicitDefEqProofs (disch := omega) [go_sem, -List.getD_eq_getElem?_getD, ite_yes, hlt, hlti, hk1, hki, cnet, klt, gtp, gt, gu, gus]
        first | exact ⟨weakS_vmk hV [some 1, some 3] rfl (by simp -dsimp -implicitDefEqProofs (disch := omega) [go_sem, -List.getD_eq_getElem?_getD, ite_yes]; exact ⟨.inl ⟨rfl, bl_flat _⟩, .inl ⟨rfl, bl_flat _⟩⟩) (by simp -dsimp -implicitDefEqProofs (disch := omega) [go_sem, -List.getD_eq_getElem?_getD, ite_yes, gtp, gt, gu, gus, klt])⟩ | exact ⟨weakS_vmk hV [some 2, some 3] rfl (by simp -dsimp -implicitDefEqProofs (disch := omega) [go_sem, -List.getD_eq_getElem?_getD, ite_yes]; exact ⟨.inl ⟨rfl, bl_flat _⟩, .inl ⟨rfl, bl_flat _⟩⟩) (by simp -dsimp -implicitDefEqProofs (disch := omega) [go_sem, -List.getD_eq_getElem?_getD, ite_yes, gtp, gt, gu, gus, klt])⟩ | exact ⟨weakS_vmk hV [some 3, some 2] rfl (by simp -dsimp -implicitDefEqProofs (disch := omega) [go_sem, -List.getD_eq_getElem?_getD, ite_yes]; exact ⟨.inl ⟨rfl, bl_flat _⟩, .inl ⟨rfl, bl_flat _⟩⟩) (by simp -dsimp -implicitDefEqProofs (disch := omega) [go_sem, -List.getD_eq_getElem?_getD, ite_yes, gtp, gt, gu, gus, klt])⟩ | exact ⟨weakS_vmk hV [some 3, some 1] rfl (by simp -dsimp -implicitDefEqProofs (disch := omega) [go_sem, -List.getD_eq_getElem?_getD, ite_yes]; exact ⟨.inl ⟨rfl, bl_flat _⟩, .inl ⟨rfl, bl_flat _⟩⟩) (by simp -dsimp -implicitDefEqProofs (disch := omega) [go_sem, -List.getD_eq_getElem?_getD, ite_yes, gtp, gt, gu, gus, klt])⟩
    · simp -dsimp -implicitDefEqProofs (disch := omega) [go_sem, -List.getD_eq_getElem?_getD, ite_yes, hlt, hlti, hk1, hki, cnet, klt, gtp, gt, gu, gus]
      first | refine ACall.of (openedT_A l (by omega) c a k hk (by omega) k _ t u gS.app gU.app) ?_ | refine ACall.of (openedT_A l (by omega) c a k hk (by omega) k _ t u gS gU) ?_
      simp -dsimp -implicitDefEqProofs (disch := omega) [go_sem, -List.getD_eq_getElem?_getD, ite_yes, hlt, hlti, hk1, hki, cnet, klt, gtp, gt, gu, gus]
      first | refine AAt.of (by first | exact SubH.refl | exact SubH.app) ?_ | (refine ⟨?_, AAt.of (by first | exact SubH.refl | exact SubH.app) ?_⟩; · omega)
      refine AAny.two 6 0 8 (by kernel_rfl) (by kernel_rfl) (by kernel_rfl) ?_ ?_
      · simp -dsimp -implicitDefEqProofs (disch := omega) [go_sem, -List.getD_eq_getElem?_getD, ite_yes, hlt, hlti, hk1, hki, cnet, klt, gtp, gt, gu, gus]
        first | refine AAt.of (by first | exact SubH.refl | exact SubH.app) ?_ | (refine ⟨?_, AAt.of (by first | exact SubH.refl | exact SubH.app) ?_⟩; · omega)
        refine AAny.two 5 7 8 (by kernel_rfl) (by kernel_rfl) (by kernel_rfl) ?_ ?_
        · simp -dsimp -implicitDefEqProofs (disch := omega) [go_sem, -List.getD_eq_getElem?_getD, ite_yes, hlt, hlti, hk1, hki, cnet, klt, gtp, gt, gu, gus]
          refine ACall.of (o1 _ tp _ gP.app (by first | exact Sl.of rfl | exact Sl.nth 1 rfl rfl | exact Sl.nth 2 rfl rfl)) ?_
          simp -dsimp -implicitDefEqProofs (disch := omega) [go_sem, -List.getD_eq_getElem?_getD, ite_yes, hlt, hlti, hk1, hki, cnet, klt, gtp, gt, gu, gus]
          first | refine AAt.of (by first | exact SubH.refl | exact SubH.app) ?_ | (refine ⟨?_, AAt.of (by first | exact SubH.refl | exact SubH.app) ?_⟩; · omega)
          refine AAny.two 4 8 14 (by kernel_rfl) (by kernel_rfl) (by kernel_rfl) ?_ ?_
          · simp -dsimp -implicitDefEqProofs (disch := omega) [go_sem, -List.getD_eq_getElem?_getD, ite_yes, hlt, hlti, hk1, hki, cnet, klt, gtp, gt, gu, gus]
            first | refine AAt.of (by first | exact SubH.refl | exact SubH.app) ?_ | (refine ⟨?_, AAt.of (by first | exact SubH.refl | exact SubH.app) ?_⟩; · omega)
            refine AAny.one 3 14 (by kernel_rfl) (by kernel_rfl) (by kernel_rfl) ?_
            simp -dsimp -implicitDefEqProofs (disch := omega) [go_sem, -List.getD_eq_getElem?_getD, ite_yes, hlt, hlti, hk1, hki, cnet, klt, gtp, gt, gu, gus]
            first | refine ACall.of (openedT_A l (by omega) c a (k + 1) hlt (by omega) (k + 1) _ t u gS.app gU.app) ?_ | refine ACall.of (openedT_A l (by omega) c a (k + 1) hlt (by omega) (k + 1) _ t u gS gU) ?_
            simp -dsimp -implicitDefEqProofs (disch := omega) [go_sem, -List.getD_eq_getElem?_getD, ite_yes, hlt, hlti, hk1, hki, cnet, klt, gtp, gt, gu, gus]
            first | refine AAt.of (by first | exact SubH.refl | exact SubH.app) ?_ | (refine ⟨?_, AAt.of (by first | exact SubH.refl | exact SubH.app) ?_⟩; · omega)
            refine AAny.one 2 16 (by kernel_rfl) (by kernel_rfl) (by kernel_rfl) ?_
            simp -dsimp -implicitDefEqProofs (disch := omega) [go_sem, -List.getD_eq_getElem?_getD, ite_yes, hlt, hlti, hk1, hki, cnet, klt, gtp, gt, gu, gus]
            refine ACall.of (o2 _ tp _ gP.app (by first | exact Sl.of rfl | exact Sl.nth 1 rfl rfl | exact Sl.nth 2 rfl rfl)) ?_
            simp -dsimp -implicitDefEqProofs (disch := omega) [go_sem, -List.getD_eq_getElem?_getD, ite_yes, hlt, hlti, hk1, hki, cnet, klt, gtp, gt, gu, gus]
            first | refine AAt.of (by first | exact SubH.refl | exact SubH.app) ?_ | (refine ⟨?_, AAt.of (by first | exact SubH.refl | exact SubH.app) ?_⟩; · omega)
            refine AAny.takes (fuel := 0) (by kernel_rfl) (by kernel_rfl) [17, 18] (by kernel_rfl) (by kernel_rfl) ?_
            simp -dsimp -implicitDefEqProofs (disch := omega) [go_sem, -List.getD_eq_getElem?_getD, ite_yes, hlt, hlti, hk1, hki, cnet, klt, gtp, gt, gu, gus]
            refine AAny.done (by kernel_rfl) ?_
            simp -dsimp -implicitDefEqProofs (disch := omega) [go_sem, -List.getD_eq_getElem?_getD, ite_yes, hlt, hlti, hk1, hki, cnet, klt, gtp, gt, gu, gus]
            first | exact ⟨weakS_vmk hV [some 1, some 3] rfl (by simp -dsimp -implicitDefEqProofs (disch := omega) [go_sem, -List.getD_eq_getElem?_getD, ite_yes]; exact ⟨.inl ⟨rfl, bl_flat _⟩, .inl ⟨rfl, bl_flat _⟩⟩) (by simp -dsimp -implicitDefEqProofs (disch := omega) [go_sem, -List.getD_eq_getElem?_getD, ite_yes, gtp, gt, gu, gus, klt])⟩ | exact ⟨weakS_vmk hV [some 2, some 3] rfl (by simp -dsimp -implicitDefEqProofs (disch := omega) [go_sem, -List.getD_eq_getElem?_getD, ite_yes]; exact ⟨.inl ⟨rfl, bl_flat _⟩, .inl ⟨rfl, bl_flat _⟩⟩) (by simp -dsimp -implicitDefEqProofs (disch := omega) [go_sem, -List.getD_eq_getElem?_getD, ite_yes, gtp, gt, gu, gus, klt])⟩ | exact ⟨weakS_vmk hV [some 3, some 2] rfl (by simp -dsimp -implicitDefEqProofs (disch := omega) [go_sem, -List.getD_eq_getElem?_getD, ite_yes]; exact ⟨.inl ⟨rfl, bl_flat _⟩, .inl ⟨rfl, bl_flat _⟩⟩) (by simp -dsimp -implicitDefEqProofs (disch := omega) [go_sem, -List.getD_eq_getElem?_getD, ite_yes, gtp, gt, gu, gus, klt])⟩ | exact ⟨weakS_vmk hV [some 3, some 1] rfl (by simp -dsimp -implicitDefEqProofs (disch := omega) [go_sem, -List.getD_eq_getElem?_getD, ite_yes]; exact ⟨.inl ⟨rfl, bl_flat _⟩, .inl ⟨rfl, bl_flat _⟩⟩) (by simp -dsimp -implicitDefEqProofs (disch := omega) [go_sem, -List.getD_eq_getElem?_getD, ite_yes, gtp, gt, gu, gus, klt])⟩
          · simp -dsimp -implicitDefEqProofs (disch := omega) [go_sem, -List.getD_eq_getElem?_getD, ite_yes, hlt, hlti, hk1, hki, cnet, klt, gtp, gt, gu, gus]
            first | refine ACall.of (openedT_A l (by omega) c a (k + 1) hlt (by omega) (k + 1) _ t u gS.app gU.app) ?_ | refine ACall.of (openedT_A l (by omega) c a (k + 1) hlt (by omega) (k + 1) _ t u gS gU) ?_
            simp -dsimp -implicitDefEqProofs (disch := omega) [go_sem, -List.getD_eq_getElem?_getD, ite_yes, hlt, hlti, hk1, hki, cnet, klt, gtp, gt, gu, gus]
            first | refine AAt.of (by first | exact SubH.refl | exact SubH.app) ?_ | (refine ⟨?_, AAt.of (by first | exact SubH.refl | exact SubH.app) ?_⟩; · omega)
            refine AAny.one 3 8 (by kernel_rfl) (by kernel_rfl) (by kernel_rfl) ?_
            simp -dsimp -implicitDefEqProofs (disch := omega) [go_sem, -List.getD_eq_getElem?_getD, ite_yes, hlt, hlti, hk1, hki, cnet, klt, gtp, gt, gu, gus]
            first | refine AAt.of (by first | exact SubH.refl | exact SubH.app) ?_ | (refine ⟨?_, AAt.of (by first | exact SubH.refl | exact SubH.app) ?_⟩; · omega)
            refine AAny.one 2 16 (by kernel_rfl) (by kernel_rfl) (by kernel_rfl) ?_
            simp -dsimp -implicitDefEqProofs (disch := omega) [go_sem, -List.getD_eq_getElem?_getD, ite_yes, hlt, hlti, hk1, hki, cnet, klt, gtp, gt, gu, gus]
            refine ACall.of (o2 _ tp _ gP.app (by first | exact Sl.of rfl | exact Sl.nth 1 rfl rfl | exact Sl.nth 2 rfl rfl)) ?_
            simp -dsimp -implicitDefEqProofs (disch := omega) [go_sem, -List.getD_eq_getElem?_getD, ite_yes, hlt, hlti, hk1, hki, cnet, klt, gtp, gt, gu, gus]
            first | refine AAt.of (by first | exact SubH.refl | exact SubH.app) ?_ | (refine ⟨?_, AAt.of (by first | exact SubH.refl | exact SubH.app) ?_⟩; · omega)
            refine AAny.takes (fuel := 0) (by kernel_rfl) (by kernel_rfl) [17, 18] (by kernel_rfl) (by kernel_rfl) ?_
            simp -dsimp -implicitDefEqProofs (disch := omega) [go_sem, -List.getD_eq_getElem?_getD, ite_yes, hlt, hlti, hk1, hki, cnet, klt, gtp, gt, gu, gus]
            refine AAny.done (by kernel_rfl) ?_
            simp -dsimp -implicitDefEqProofs (disch := omega) [go_sem, -List.getD_eq_getElem?_getD, ite_yes, hlt, hlti, hk1, hki, cnet, klt, gtp, gt, gu, gus]
            first | exact ⟨weakS_vmk hV [some 1, some 3] rfl (by simp -dsimp -implicitDefEqProofs (disch := omega) [go_sem, -List.getD_eq_getElem?_getD, ite_yes]; exact ⟨.inl ⟨rfl, bl_flat _⟩, .inl ⟨rfl, bl_flat _⟩⟩) (by simp -dsimp -implicitDefEqProofs (disch := omega) [go_sem, -List.getD_eq_getElem?_getD, ite_yes, gtp, gt, gu, gus, klt])⟩ | exact ⟨weakS_vmk hV [some 2, some 3] rfl (by simp -dsimp -implicitDefEqProofs (disch := omega) [go_sem, -List.getD_eq_getElem?_getD, ite_yes]; exact ⟨.inl ⟨rfl, bl_flat _⟩, .inl ⟨rfl, bl_flat _⟩⟩) (by simp -dsimp -implicitDefEqProofs (disch := omega) [go_sem, -List.getD_eq_getElem?_getD, ite_yes, gtp, gt, gu, gus, klt])⟩ | exact ⟨weakS_vmk hV [some 3, some 2] rfl (by simp -dsimp -implicitDefEqProofs (disch := omega) [go_sem, -List.getD_eq_getElem?_getD, ite_yes]; exact ⟨.inl ⟨rfl, bl_flat _⟩, .inl ⟨rfl, bl_flat _⟩⟩) (by simp -dsimp -implicitDefEqProofs (disch := omega) [go_sem, -List.getD_eq_getElem?_getD, ite_yes, gtp, gt, gu, gus, klt])⟩ | exact ⟨weakS_vmk hV [some 3, some 1] rfl (by simp -dsimp -implicitDefEqProofs (disch := omega) [go_sem, -List.getD_eq_getElem?_getD, ite_yes]; exact ⟨.inl ⟨rfl, bl_flat _⟩, .inl ⟨rfl, bl_flat _⟩⟩) (by simp -dsimp -implicitDefEqProofs (disch := omega) [go_sem, -List.getD_eq_getElem?_getD, ite_yes, gtp, gt, gu, gus, klt])⟩
        · simp -dsimp -implicitDefEqProofs (disch := omega) [go_sem, -List.getD_eq_getElem?_getD, ite_yes, hlt, hlti, hk1, hki, cnet, klt, gtp, gt, gu, gus]
          first | refine AAt.of (by first | exact SubH.refl | exact SubH.app) ?_ | (refine ⟨?_, AAt.of (by first | exact SubH.refl | exact SubH.app) ?_⟩; · omega)
          refine AAny.one 4 7 (by kernel_rfl) (by kernel_rfl) (by kernel_rfl) ?_
          simp -dsimp -implicitDefEqProofs (disch := omega) [go_sem, -List.getD_eq_getElem?_getD, ite_yes, hlt, hlti, hk1, hki, cnet, klt, gtp, gt, gu, gus]
          refine ACall.of (o1 _ tp _ gP.app (by first | exact Sl.of rfl | exact Sl.nth 1 rfl rfl | exact Sl.nth 2 rfl rfl)) ?_
          simp -dsimp -implicitDefEqProofs (disch := omega) [go_sem, -List.getD_eq_getElem?_getD, ite_yes, hlt, hlti, hk1, hki, cnet, klt, gtp, gt, gu, gus]
          first | refine AAt.of (by first | exact SubH.refl | exact SubH.app) ?_ | (refine ⟨?_, AAt.of (by first | exact SubH.refl | exact SubH.app) ?_⟩; · omega)
          refine AAny.one 3 14 (by kernel_rfl) (by kernel_rfl) (by kernel_rfl) ?_
          simp -dsimp -implicitDefEqProofs (disch := omega) [go_sem, -List.getD_eq_getElem?_getD, ite_yes, hlt, hlti, hk1, hki, cnet, klt, gtp, gt, gu, gus]
          first | refine ACall.of (openedT_A l (by omega) c a (k + 1) hlt (by omega) (k + 1) _ t u gS.app gU.app) ?_ | refine ACall.of (openedT_A l (by omega) c a (k + 1) hlt (by omega) (k + 1) _ t u gS gU) ?_
          simp -dsimp -implicitDefEqProofs (disch := omega) [go_sem, -List.getD_eq_getElem?_getD, ite_yes, hlt, hlti, hk1, hki, cnet, klt, gtp, gt, gu, gus]
          first | refine AAt.of (by first | exact SubH.refl | exact SubH.app) ?_ | (refine ⟨?_, AAt.of (by first | exact SubH.refl | exact SubH.app) ?_⟩; · omega)
          refine AAny.one 2 16 (by kernel_rfl) (by kernel_rfl) (by kernel_rfl) ?_
          simp -dsimp -implicitDefEqProofs (disch := omega) [go_sem, -List.getD_eq_getElem?_getD, ite_yes, hlt, hlti, hk1, hki, cnet, klt, gtp, gt, gu, gus]
          refine ACall.of (o2 _ tp _ gP.app (by first | exact Sl.of rfl | exact Sl.nth 1 rfl rfl | exact Sl.nth 2 rfl rfl)) ?_
          simp -dsimp -implicitDefEqProofs (disch := omega) [go_sem, -List.getD_eq_getElem?_getD, ite_yes, hlt, hlti, hk1, hki, cnet, klt, gtp, gt, gu, gus]
          first | refine AAt.of (by first | exact SubH.refl | exact SubH.app) ?_ | (refine ⟨?_, AAt.of (by first | exact SubH.refl | exact SubH.app) ?_⟩; · omega)
          refine AAny.takes (fuel := 0) (by kernel_rfl) (by kernel_rfl) [17, 18] (by kernel_rfl) (by kernel_rfl) ?_
          simp -dsimp -implicitDefEqProofs (disch := omega) [go_sem, -List.getD_eq_getElem?_getD, ite_yes, hlt, hlti, hk1, hki, cnet, klt, gtp, gt, gu, gus]
          refine AAny.done (by kernel_rfl) ?_
          simp -dsimp -implicitDefEqProofs (disch := omega) [go_sem, -List.getD_eq_getElem?_getD, ite_yes, hlt, hlti, hk1, hki, cnet, klt, gtp, gt, gu, gus]
          first | exact ⟨weakS_vmk hV [some 1, some 3] rfl (by simp -dsimp -implicitDefEqProofs (disch := omega) [go_sem, -List.getD_eq_getElem?_getD, ite_yes]; exact ⟨.inl ⟨rfl, bl_flat _⟩, .inl ⟨rfl, bl_flat _⟩⟩) (by simp -dsimp -implicitDefEqProofs (disch := omega) [go_sem, -List.getD_eq_getElem?_getD, ite_yes, gtp, gt, gu, gus, klt])⟩ | exact ⟨weakS_vmk hV [some 2, some 3] rfl (by simp -dsimp -implicitDefEqProofs (disch := omega) [go_sem, -List.getD_eq_getElem?_getD, ite_yes]; exact ⟨.inl ⟨rfl, bl_flat _⟩, .inl ⟨rfl, bl_flat _⟩⟩) (by simp -dsimp -implicitDefEqProofs (disch := omega) [go_sem, -List.getD_eq_getElem?_getD, ite_yes, gtp, gt, gu, gus, klt])⟩ | exact ⟨weakS_vmk hV [some 3, some 2] rfl (by simp -dsimp -implicitDefEqProofs (disch := omega) [go_sem, -List.getD_eq_getElem?_getD, ite_yes]; exact ⟨.inl ⟨rfl, bl_flat _⟩, .inl ⟨rfl, bl_flat _⟩⟩) (by simp -dsimp -implicitDefEqProofs (disch := omega) [go_sem, -List.getD_eq_getElem?_getD, ite_yes, gtp, gt, gu, gus, klt])⟩ | exact ⟨weakS_vmk hV [some 3, some 1] rfl (by simp -dsimp -implicitDefEqProofs (disch := omega) [go_sem, -List.getD_eq_getElem?_getD, ite_yes]; exact ⟨.inl ⟨rfl, bl_flat _⟩, .inl ⟨rfl, bl_flat _⟩⟩) (by simp -dsimp -implicitDefEqProofs (disch := omega) [go_sem, -List.getD_eq_getElem?_getD, ite_yes, gtp, gt, gu, gus, klt])⟩
      · simp -dsimp -implicitDefEqProofs (disch := omega) [go_sem, -List.getD_eq_getElem?_getD, ite_yes, hlt, hlti, hk1, hki, cnet, klt, gtp, gt, gu, gus]
        first | refine AAt.of (by first | exact SubH.refl | exact SubH.app) ?_ | (refine ⟨?_, AAt.of (by first | exact SubH.refl | exact SubH.app) ?_⟩; · omega)
        refine AAny.one 5 0 (by kernel_rfl) (by kernel_rfl) (by kernel_rfl) ?_
        simp -dsimp -implicitDefEqProofs (disch := omega) [go_sem, -List.getD_eq_getElem?_getD, ite_yes, hlt, hlti, hk1, hki, cnet, klt, gtp, gt, gu, gus]
        first | refine AAt.of (by first | exact SubH.refl | exact SubH.app) ?_ | (refine ⟨?_, AAt.of (by first | exact SubH.refl | exact SubH.app) ?_⟩; · omega)
        refine AAny.one 4 7 (by kernel_rfl) (by kernel_rfl) (by kernel_rfl) ?_
        simp -dsimp -implicitDefEqProofs (disch := omega) [go_sem, -List.getD_eq_getElem?_getD, ite_yes, hlt, hlti, hk1, hki, cnet, klt, gtp, gt, gu, gus]
        refine ACall.of (o1 _ tp _ gP.app (by first | exact Sl.of rfl | exact Sl.nth 1 rfl rfl | exact Sl.nth 2 rfl rfl)) ?_
        simp -dsimp -implicitDefEqProofs (disch := omega) [go_sem, -List.getD_eq_getElem?_getD, ite_yes, hlt, hlti, hk1, hki, cnet, klt, gtp, gt, gu, gus]
        first | refine AAt.of (by first | exact SubH.refl | exact SubH.app) ?_ | (refine ⟨?_, AAt.of (by first | exact SubH.refl | exact SubH.app) ?_⟩; · omega)
        refine AAny.one 3 14 (by kernel_rfl) (by kernel_rfl) (by kernel_rfl) ?_
        simp -dsimp -implicitDefEqProofs (disch := omega) [go_sem, -List.getD_eq_getElem?_getD, ite_yes, hlt, hlti, hk1, hki, cnet, klt, gtp, gt, gu, gus]
        first | refine ACall.of (openedT_A l (by omega) c a (k + 1) hlt (by omega) (k + 1) _ t u gS.app gU.app) ?_ | refine ACall.of (openedT_A l (by omega) c a (k + 1) hlt (by omega) (k + 1) _ t u gS gU) ?_
        simp -dsimp -implicitDefEqProofs (disch := omega) [go_sem, -List.getD_eq_getElem?_getD, ite_yes, hlt, hlti, hk1, hki, cnet, klt, gtp, gt, gu, gus]
        first | refine AAt.of (by first | exact SubH.refl | exact SubH.app) ?_ | (refine ⟨?_, AAt.of (by first | exact SubH.refl | exact SubH.app) ?_⟩; · omega)
        refine AAny.one 2 16 (by kernel_rfl) (by kernel_rfl) (by kernel_rfl) ?_
        simp -dsimp -implicitDefEqProofs (disch := omega) [go_sem, -List.getD_eq_getElem?_getD, ite_yes, hlt, hlti, hk1, hki, cnet, klt, gtp, gt, gu, gus]
        refine ACall.of (o2 _ tp _ gP.app (by first | exact Sl.of rfl | exact Sl.nth 1 rfl rfl | exact Sl.nth 2 rfl rfl)) ?_
        simp -dsimp -implicitDefEqProofs (disch := omega) [go_sem, -List.getD_eq_getElem?_getD, ite_yes, hlt, hlti, hk1, hki, cnet, klt, gtp, gt, gu, gus]
        first | refine AAt.of (by first | exact SubH.refl | exact SubH.app) ?_ | (refine ⟨?_, AAt.of (by first | exact SubH.refl | exact SubH.app) ?_⟩; · omega)
        refine AAny.takes (fuel := 0) (by kernel_rfl) (by kernel_rfl) [17, 18] (by kernel_rfl) (by kernel_rfl) ?_
        simp -dsimp -implicitDefEqProofs (disch := omega) [go_sem, -List.getD_eq_getElem?_getD, ite_yes, hlt, hlti, hk1, hki, cnet, klt, gtp, gt, gu, gus]
        refine AAny.done (by kernel_rfl) ?_
        simp -dsimp -implicitDefEqProofs (disch := omega) [go_sem, -List.getD_eq_getElem?_getD, ite_yes, hlt, hlti, hk1, hki, cnet, klt, gtp, gt, gu, gus]
        first | exact ⟨weakS_vmk hV [some 1, some 3] rfl (by simp -dsimp -implicitDefEqProofs (disch := omega) [go_sem, -List.getD_eq_getElem?_getD, ite_yes]; exact ⟨.inl ⟨rfl, bl_flat _⟩, .inl ⟨rfl, bl_flat _⟩⟩) (by simp -dsimp -implicitDefEqProofs (disch := omega) [go_sem, -List.getD_eq_getElem?_getD, ite_yes, gtp, gt, gu, gus, klt])⟩ | exact ⟨weakS_vmk hV [some 2, some 3] rfl (by simp -dsimp -implicitDefEqProofs (disch := omega) [go_sem, -List.getD_eq_getElem?_getD, ite_yes]; exact ⟨.inl ⟨rfl, bl_flat _⟩, .inl ⟨rfl, bl_flat _⟩⟩) (by simp -dsimp -implicitDefEqProofs (disch := omega) [go_sem, -List.getD_eq_getElem?_getD, ite_yes, gtp, gt, gu, gus, klt])⟩ | exact ⟨weakS_vmk hV [some 3, some 2] rfl (by simp -dsimp -implicitDefEqProofs (disch := omega) [go_sem, -List.getD_eq_getElem?_getD, ite_yes]; exact ⟨.inl ⟨rfl, bl_flat _⟩, .inl ⟨rfl, bl_flat _⟩⟩) (by simp -dsimp -implicitDefEqProofs (disch := omega) [go_sem, -List.getD_eq_getElem?_getD, ite_yes, gtp, gt, gu, gus, klt])⟩ | exact ⟨weakS_vmk hV [some 3, some 1] rfl (by simp -dsimp -implicitDefEqProofs (disch := omega) [go_sem, -List.getD_eq_getElem?_getD, ite_yes]; exact ⟨.inl ⟨rfl, bl_flat _⟩, .inl ⟨rfl, bl_flat _⟩⟩) (by simp -dsimp -implicitDefEqProofs (disch := omega) [go_sem, -List.getD_eq_getElem?_getD, ite_yes, gtp, gt, gu, gus, klt])⟩
    · simp -dsimp -implicitDefEqProofs (disch := omega) [go_sem, -List.getD_eq_getElem?_getD, ite_yes, hlt, hlti, hk1, hki, cnet, klt, gtp, gt, gu, gus]
      first | refine AAt.of (by first | exact SubH.refl | exact SubH.app) ?_ | (refine ⟨?_, AAt.of (by first | exact SubH.refl | exact SubH.app) ?_⟩; · omega)
      refine AAny.two 6 0 5 (by kernel_rfl) (by kernel_rfl) (by kernel_rfl) ?_ ?_
      · simp -dsimp -implicitDefEqProofs (disch := omega) [go_sem, -List.getD_eq_getElem?_getD, ite_yes, hlt, hlti, hk1, hki, cnet, klt, gtp, gt, gu, gus]
        first | refine AAt.of (by first | exact SubH.refl | exact SubH.app) ?_ | (refine ⟨?_, AAt.of (by first | exact SubH.refl | exact SubH.app) ?_⟩; · omega)
        refine AAny.one 5 5 (by kernel_rfl) (by kernel_rfl) (by kernel_rfl) ?_
        simp -dsimp -implicitDefEqProofs (disch := omega) [go_sem, -List.getD_eq_getElem?_getD, ite_yes, hlt, hlti, hk1, hki, cnet, klt, gtp, gt, gu, gus]
        first | refine ACall.of (openedT_A l (by omega) c a k hk (by omega) k _ t u gS.app gU.app) ?_ | refine ACall.of (openedT_A l (by omega) c a k hk (by omega) k _ t u gS gU) ?_
        simp -dsimp -implicitDefEqProofs (disch := omega) [go_sem, -List.getD_eq_getElem?_getD, ite_yes, hlt, hlti, hk1, hki, cnet, klt, gtp, gt, gu, gus]
        first | refine AAt.of (by first | exact SubH.refl | exact SubH.app) ?_ | (refine ⟨?_, AAt.of (by first | exact SubH.refl | exact SubH.app) ?_⟩; · omega)
        refine AAny.one 4 7 (by kernel_rfl) (by kernel_rfl) (by kernel_rfl) ?_
        simp -dsimp -implicitDefEqProofs (disch := omega) [go_sem, -List.getD_eq_getElem?_getD, ite_yes, hlt, hlti, hk1, hki, cnet, klt, gtp, gt, gu, gus]
        refine ACall.of (o1 _ tp _ gP.app (by first | exact Sl.of rfl | exact Sl.nth 1 rfl rfl | exact Sl.nth 2 rfl rfl)) ?_
        simp -dsimp -implicitDefEqProofs (disch := omega) [go_sem, -List.getD_eq_getElem?_getD, ite_yes, hlt, hlti, hk1, hki, cnet, klt, gtp, gt, gu, gus]
        first | refine AAt.of (by first | exact SubH.refl | exact SubH.app) ?_ | (refine ⟨?_, AAt.of (by first | exact SubH.refl | exact SubH.app) ?_⟩; · omega)
        refine AAny.one 3 14 (by kernel_rfl) (by kernel_rfl) (by kernel_rfl) ?_
        simp -dsimp -implicitDefEqProofs (disch := omega) [go_sem, -List.getD_eq_getElem?_getD, ite_yes, hlt, hlti, hk1, hki, cnet, klt, gtp, gt, gu, gus]
        first | refine ACall.of (openedT_A l (by omega) c a (k + 1) hlt (by omega) (k + 1) _ t u gS.app gU.app) ?_ | refine ACall.of (openedT_A l (by omega) c a (k + 1) hlt (by omega) (k + 1) _ t u gS gU) ?_
        simp -dsimp -implicitDefEqProofs (disch := omega) [go_sem, -List.getD_eq_getElem?_getD, ite_yes, hlt, hlti, hk1, hki, cnet, klt, gtp, gt, gu, gus]
        first | refine AAt.of (by first | exact SubH.refl | exact SubH.app) ?_ | (refine ⟨?_, AAt.of (by first | exact SubH.refl | exact SubH.app) ?_⟩; · omega)
        refine AAny.one 2 16 (by kernel_rfl) (by kernel_rfl) (by kernel_rfl) ?_
        simp -dsimp -implicitDefEqProofs (disch := omega) [go_sem, -List.getD_eq_getElem?_getD, ite_yes, hlt, hlti, hk1, hki, cnet, klt, gtp, gt, gu, gus]
        refine ACall.of (o2 _ tp _ gP.app (by first | exact Sl.of rfl | exact Sl.nth 1 rfl rfl | exact Sl.nth 2 rfl rfl)) ?_
        simp -dsimp -implicitDefEqProofs (disch := omega) [go_sem, -List.getD_eq_getElem?_getD, ite_yes, hlt, hlti, hk1, hki, cnet, klt, gtp, gt, gu, gus]
        first | refine AAt.of (by first | exact SubH.refl | exact SubH.app) ?_ | (refine ⟨?_, AAt.of (by first | exact SubH.refl | exact SubH.app) ?_⟩; · omega)
        refine AAny.takes (fuel := 0) (by kernel_rfl) (by kernel_rfl) [17, 18] (by kernel_rfl) (by kernel_rfl) ?_
        simp -dsimp -implicitDefEqProofs (disch := omega) [go_sem, -List.getD_eq_getElem?_getD, ite_yes, hlt, hlti, hk1, hki, cnet, klt, gtp, gt, gu, gus]
        refine AAny.done (by kernel_rfl) ?_
        simp -dsimp -implicitDefEqProofs (disch := omega) [go_sem, -List.getD_eq_getElem?_getD, ite_yes, hlt, hlti, hk1, hki, cnet, klt, gtp, gt, gu, gus]
        first | exact ⟨weakS_vmk hV [some 1, some 3] rfl (by simp -dsimp -implicitDefEqProofs (disch := omega) [go_sem, -List.getD_eq_getElem?_getD, ite_yes]; exact ⟨.inl ⟨rfl, bl_flat _⟩, .inl ⟨rfl, bl_flat _⟩⟩) (by simp -dsimp -implicitDefEqProofs (disch := omega) [go_sem, -List.getD_eq_getElem?_getD, ite_yes, gtp, gt, gu, gus, klt])⟩ | exact ⟨weakS_vmk hV [some 2, some 3] rfl (by simp -dsimp -implicitDefEqProofs (disch := omega) [go_sem, -List.getD_eq_getElem?_getD, ite_yes]; exact ⟨.inl ⟨rfl, bl_flat _⟩, .inl ⟨rfl, bl_flat _⟩⟩) (by simp -dsimp -implicitDefEqProofs (disch := omega) [go_sem, -List.getD_eq_getElem?_getD, ite_yes, gtp, gt, gu, gus, klt])⟩ | exact ⟨weakS_vmk hV [some 3, some 2] rfl (by simp -dsimp -implicitDefEqProofs (disch := omega) [go_sem, -List.getD_eq_getElem?_getD, ite_yes]; exact ⟨.inl ⟨rfl, bl_flat _⟩, .inl ⟨rfl, bl_flat _⟩⟩) (by simp -dsimp -implicitDefEqProofs (disch := omega) [go_sem, -List.getD_eq_getElem?_getD, ite_yes, gtp, gt, gu, gus, klt])⟩ | exact ⟨weakS_vmk hV [some 3, some 1] rfl (by simp -dsimp -implicitDefEqProofs (disch := omega) [go_sem, -List.getD_eq_getElem?_getD, ite_yes]; exact ⟨.inl ⟨rfl, bl_flat _⟩, .inl ⟨rfl, bl_flat _⟩⟩) (by simp -dsimp -implicitDefEqProofs (disch := omega) [go_sem, -List.getD_eq_getElem?_getD, ite_yes, gtp, gt, gu, gus, klt])⟩
      · simp -dsimp -implicitDefEqProofs (disch := omega) [go_sem, -List.getD_eq_getElem?_getD, ite_yes, hlt, hlti, hk1, hki, cnet, klt, gtp, gt, gu, gus]
        first | refine ACall.of (openedT_A l (by omega) c a k hk (by omega) k _ t u gS.app gU.app) ?_ | refine ACall.of (openedT_A l (by omega) c a k hk (by omega) k _ t u gS gU) ?_
        simp -dsimp -implicitDefEqProofs (disch := omega) [go_sem, -List.getD_eq_getElem?_getD, ite_yes, hlt, hlti, hk1, hki, cnet, klt, gtp, gt, gu, gus]
        first | refine AAt.of (by first | exact SubH.refl | exact SubH.app) ?_ | (refine ⟨?_, AAt.of (by first | exact SubH.refl | exact SubH.app) ?_⟩; · omega)
        refine AAny.one 5 0 (by kernel_rfl) (by kernel_rfl) (by kernel_rfl) ?_
        simp -dsimp -implicitDefEqProofs (disch := omega) [go_sem, -List.getD_eq_getElem?_getD, ite_yes, hlt, hlti, hk1, hki, cnet, klt, gtp, gt, gu, gus]
        first | refine AAt.of (by first | exact SubH.refl | exact SubH.app) ?_ | (refine ⟨?_, AAt.of (by first | exact SubH.refl | exact SubH.app) ?_⟩; · omega)
        refine AAny.one 4 7 (by kernel_rfl) (by kernel_rfl) (by kernel_rfl) ?_
        simp -dsimp -implicitDefEqProofs (disch := omega) [go_sem, -List.getD_eq_getElem?_getD, ite_yes, hlt, hlti, hk1, hki, cnet, klt, gtp, gt, gu, gus]
        refine ACall.of (o1 _ tp _ gP.app (by first | exact Sl.of rfl | exact Sl.nth 1 rfl rfl | exact Sl.nth 2 rfl rfl)) ?_
        simp -dsimp -implicitDefEqProofs (disch := omega) [go_sem, -List.getD_eq_getElem?_getD, ite_yes, hlt, hlti, hk1, hki, cnet, klt, gtp, gt, gu, gus]
        first | refine AAt.of (by first | exact SubH.refl | exact SubH.app) ?_ | (refine ⟨?_, AAt.of (by first | exact SubH.refl | exact SubH.app) ?_⟩; · omega)
        refine AAny.one 3 14 (by kernel_rfl) (by kernel_rfl) (by kernel_rfl) ?_
        simp -dsimp -implicitDefEqProofs (disch := omega) [go_sem, -List.getD_eq_getElem?_getD, ite_yes, hlt, hlti, hk1, hki, cnet, klt, gtp, gt, gu, gus]
        first | refine ACall.of (openedT_A l (by omega) c a (k + 1) hlt (by omega) (k + 1) _ t u gS.app gU.app) ?_ | refine ACall.of (openedT_A l (by omega) c a (k + 1) hlt (by omega) (k + 1) _ t u gS gU) ?_
        simp -dsimp -implicitDefEqProofs (disch := omega) [go_sem, -List.getD_eq_getElem?_getD, ite_yes, hlt, hlti, hk1, hki, cnet, klt, gtp, gt, gu, gus]
        first | refine AAt.of (by first | exact SubH.refl | exact SubH.app) ?_ | (refine ⟨?_, AAt.of (by first | exact SubH.refl | exact SubH.app) ?_⟩; · omega)
        refine AAny.one 2 16 (by kernel_rfl) (by kernel_rfl) (by kernel_rfl) ?_
        simp -dsimp -implicitDefEqProofs (disch := omega) [go_sem, -List.getD_eq_getElem?_getD, ite_yes, hlt, hlti, hk1, hki, cnet, klt, gtp, gt, gu, gus]
        refine ACall.of (o2 _ tp _ gP.app (by first | exact Sl.of rfl | exact Sl.nth 1 rfl rfl | exact Sl.nth 2 rfl rfl)) ?_
        simp -dsimp -implicitDefEqProofs (disch := omega) [go_sem, -List.getD_eq_getElem?_getD, ite_yes, hlt, hlti, hk1, hki, cnet, klt, gtp, gt, gu, gus]
        first | refine AAt.of (by first | exact SubH.refl | exact SubH.app) ?_ | (refine ⟨?_, AAt.of (by first | exact SubH.refl | exact SubH.app) ?_⟩; · omega)
        refine AAny.takes (fuel := 0) (by kernel_rfl) (by kernel_rfl) [17, 18] (by kernel_rfl) (by kernel_rfl) ?_
        simp -dsimp -implicitDefEqProofs (disch := omega) [go_sem, -List.getD_eq_getElem?_getD, ite_yes, hlt, hlti, hk1, hki, cnet, klt, gtp, gt, gu, gus]
        refine AAny.done (by kernel_rfl) ?_
        simp -dsimp -implicitDefEqProofs (disch := omega) [go_sem, -List.getD_eq_getElem?_getD, ite_yes, hlt, hlti, hk1, hki, cnet, klt, gtp, gt, gu, gus]
        first | exact ⟨weakS_vmk hV [some 1, some 3] rfl (by simp -dsimp -implicitDefEqProofs (disch := omega) [go_sem, -List.getD_eq_getElem?_getD, ite_yes]; exact ⟨.inl ⟨rfl, bl_flat _⟩, .inl ⟨rfl, bl_flat _⟩⟩) (by simp -dsimp -implicitDefEqProofs (disch := omega) [go_sem, -List.getD_eq_getElem?_getD, ite_yes, gtp, gt, gu, gus, klt])⟩ | exact ⟨weakS_vmk hV [some 2, some 3] rfl (by simp -dsimp -implicitDefEqProofs (disch := omega) [go_sem, -List.getD_eq_getElem?_getD, ite_yes]; exact ⟨.inl ⟨rfl, bl_flat _⟩, .inl ⟨rfl, bl_flat _⟩⟩) (by simp -dsimp -implicitDefEqProofs (disch := omega) [go_sem, -List.getD_eq_getElem?_getD, ite_yes, gtp, gt, gu, gus, klt])⟩ | exact ⟨weakS_vmk hV [some 3, some 2] rfl (by simp -dsimp -implicitDefEqProofs (disch := omega) [go_sem, -List.getD_eq_getElem?_getD, ite_yes]; exact ⟨.inl ⟨rfl, bl_flat _⟩, .inl ⟨rfl, bl_flat _⟩⟩) (by simp -dsimp -implicitDefEqProofs (disch := omega) [go_sem, -List.getD_eq_getElem?_getD, ite_yes, gtp, gt, gu, gus, klt])⟩ | exact ⟨weakS_vmk hV [some 3, some 1] rfl (by simp -dsimp -implicitDefEqProofs (disch := omega) [go_sem, -List.getD_eq_getElem?_getD, ite_yes]; exact ⟨.inl ⟨rfl, bl_flat _⟩, .inl ⟨rfl, bl_flat _⟩⟩) (by simp -dsimp -implicitDefEqProofs (disch := omega) [go_sem, -List.getD_eq_getElem?_getD, ite_yes, gtp, gt, gu, gus, klt])⟩
  obtain ⟨q, rfl⟩ : ∃ q : Nat, n = (q : Int) := ⟨n.toNat, by omega⟩
  rw [Int.toNat_natCast] at en
  have cR := hrows.sl.all1 (g := fun r : Rw => Value.slice (some ⟨r.1, 0, none⟩) r.2.2.length r.2.1)
  rw [rwE_map] at cR
  have m1 : (R1.map Value.bool).length = 19 := by rw [List.length_map, hl1]
  have m2 : (R2.map Value.bool).length = 19 := by rw [List.length_map, hl2]
  simp -dsimp -implicitDefEqProofs (disch := omega) [go_sem, -List.getD_eq_getElem?_getD, ite_yes, klt, gtp, gt, gu, gus]
  refine ALoop.intro (ι := Nat) (fun j => j ≤ q) (fun j => [(1, .slice (some ⟨t, 0, none⟩) l.length c), (2, .int .i64 src), (3, .slice (some ⟨u, 0, none⟩) a.length d), (4, .pointer (some ⟨H.length, 0, none⟩)), (10, .slice (some ⟨us, 0, none⟩) R.length 0), (24, .int .i64 a.length), (25, .int .i64 k), (12, .pointer (some ⟨G.length, 0, none⟩)), (13, .pointer (some ⟨G.length + 1, 0, none⟩)), (14, .slice (some ⟨G.length + 2, 0, none⟩) (nwTo R1 R2 j).length 0), (15, .int .i64 ((j : Int) + 1))])
    (fun j => G ++ [some ⟨R1.map .bool, true, 85, 1⟩, some ⟨R2.map .bool, true, 85, 1⟩, some ⟨(nwTo R1 R2 j).flatMap nmE, true, 3, 1⟩]) (fun j => q - j) 0 (by omega) ?_ ?_
  · refine weakS_vmk hV [some 0, some 1, some 2] rfl ?_ (by simp -dsimp -implicitDefEqProofs (disch := omega) [go_sem, -List.getD_eq_getElem?_getD, ite_yes, gtp, gt, gu, gus, klt, nwTo])
    simp -dsimp -implicitDefEqProofs (disch := omega) [go_sem, -List.getD_eq_getElem?_getD, ite_yes, nwTo]
    exact ⟨.inl ⟨rfl, bl_flat _⟩, .inl ⟨rfl, bl_flat _⟩, .inl ⟨rfl, rfl⟩⟩
  intro j hj
  have hdl := nwTo_length R1 R2 j
  have hfl : ((nwTo R1 R2 j).flatMap nmE).length = (nwTo R1 R2 j).length := by rw [nmE_length]; omega
  by_cases hjl : j < q
  · have h1 : (j : Int) + 1 ≤ (q : Int) := by omega
    have hj1 : ((j : Int) + 1).toNat = j + 1 := by omega
    have hj19 : j + 1 < 19 := by omega
    have hjn : (j : Int) + 1 < 19 := by omega
    have c1 := bl_cell R1 (q := j + 1) (by omega)
    have c2 := bl_cell R2 (q := j + 1) (by omega)
    have e : nwTo R1 R2 (j + 1) = if (R2.getD (j + 1) false && !R1.getD (j + 1) false) = true then nwTo R1 R2 j ++ [((j + 1 : Nat) : Int)] else nwTo R1 R2 j := rfl
    cases hh2 : R2.getD (j + 1) false <;> rw [hh2] at c2 e
    · rw [if_neg (by simp)] at e
      simp -dsimp -implicitDefEqProofs (disch := omega) [go_sem, -List.getD_eq_getElem?_getD, ite_yes, h1, hj1, hj19, hjn, c1, c2, m1, m2, hl1, hl2, klt, gtp, gt, gu, gus, cnet0, hfl]
      refine LoopEnd.of (j + 1) (by omega) (by omega) (weakS_vmk hV [some 0, some 1, some 2] rfl ?_ (by simp -dsimp -implicitDefEqProofs (disch := omega) [go_sem, -List.getD_eq_getElem?_getD, ite_yes, gtp, gt, gu, gus, klt, e]))
      simp -dsimp -implicitDefEqProofs (disch := omega) [go_sem, -List.getD_eq_getElem?_getD, ite_yes, e]
      exact ⟨.inl ⟨rfl, bl_flat _⟩, .inl ⟨rfl, bl_flat _⟩, .inl ⟨rfl, nmE_flat _⟩⟩
    cases hh1 : R1.getD (j + 1) false <;> rw [hh1] at c1 e
    · rw [if_pos (by rfl)] at e
      simp -dsimp -implicitDefEqProofs (disch := omega) [go_sem, -List.getD_eq_getElem?_getD, ite_yes, h1, hj1, hj19, hjn, c1, c2, m1, m2, hl1, hl2, klt, gtp, gt, gu, gus, cnet0, hfl]
      refine ⟨by omega, LoopEnd.of (j + 1) (by omega) (by omega) (weakS_vmk hV [some 0, some 1, some 4] rfl ?_ (by simp -dsimp -implicitDefEqProofs (disch := omega) [go_sem, -List.getD_eq_getElem?_getD, ite_yes, gtp, gt, gu, gus, klt, e]))⟩
      simp -dsimp -implicitDefEqProofs (disch := omega) [go_sem, -List.getD_eq_getElem?_getD, ite_yes]
      exact ⟨.inl ⟨rfl, bl_flat _⟩, .inl ⟨rfl, bl_flat _⟩, .inl ⟨by rw [e, List.flatMap_append]; rfl, by rw [show List.flatMap nmE (nwTo R1 R2 j) ++ [Value.int IntKind.i64 (↑j + 1)] = List.flatMap nmE (nwTo R1 R2 (j + 1)) by rw [e, List.flatMap_append]; rfl]; exact nmE_flat _⟩⟩
    · rw [if_neg (by simp)] at e
      simp -dsimp -implicitDefEqProofs (disch := omega) [go_sem, -List.getD_eq_getElem?_getD, ite_yes, h1, hj1, hj19, hjn, c1, c2, m1, m2, hl1, hl2, klt, gtp, gt, gu, gus, cnet0, hfl]
      refine LoopEnd.of (j + 1) (by omega) (by omega) (weakS_vmk hV [some 0, some 1, some 2] rfl ?_ (by simp -dsimp -implicitDefEqProofs (disch := omega) [go_sem, -List.getD_eq_getElem?_getD, ite_yes, gtp, gt, gu, gus, klt, e]))
      simp -dsimp -implicitDefEqProofs (disch := omega) [go_sem, -List.getD_eq_getElem?_getD, ite_yes, e]
      exact ⟨.inl ⟨rfl, bl_flat _⟩, .inl ⟨rfl, bl_flat _⟩, .inl ⟨rfl, nmE_flat _⟩⟩
  obtain rfl : j = q := by omega
  have h1 : ¬ (j : Int) + 1 ≤ (j : Int) := by omega
  rw [← en] at hdl hfl ⊢
  have hrf := rwE_length R
  have gR := fun L => (Heap.get_append_left (L := L) gus).trans hrows.sp
  have hR6 : R.length ≤ 6 := by omega
  simp -dsimp -implicitDefEqProofs (disch := omega) [go_sem, -List.getD_eq_getElem?_getD, ite_yes, h1, klt, gtp, gt, gu, gus, cnet0, cR, gR, hrf]
  refine ⟨by omega, ?_⟩
  refine LoopEnd.of (⟨k + 1, G.length + 1, R ++ [(G.length, 0, F)], G.set us none ++ [some ⟨F.flatMap nmE, true, 3, 1⟩, some ⟨(R ++ [(G.length, 0, F)]).flatMap rwE, true, 26, 1⟩]⟩ : NwSt) (nx hlt) (by first | omega | (simp only; omega)) ?_
  dsimp only
  refine weakS_vmk (K := G.set us none) (L' := [some ⟨F.flatMap nmE, true, 3, 1⟩, some ⟨(R ++ [(G.length, 0, F)]).flatMap rwE, true, 26, 1⟩]) hV.unset [some 2, some 4] rfl ?_ ?_
  rotate_left
  · simp -dsimp -implicitDefEqProofs (disch := omega) [go_sem, -List.getD_eq_getElem?_getD, ite_yes, gtp, gt, gu, gus, klt]
  simp -dsimp -implicitDefEqProofs (disch := omega) [go_sem, -List.getD_eq_getElem?_getD, ite_yes]
  refine ⟨.inl ⟨rfl, nmE_flat _⟩, ?_⟩
  exact wl_spine (js := [some 2, some 4]) (p := 2) (q := 2) (fun r hr => hrows.rlt hr) (by simp [sg]) (fun t ht => by simp [sg, ht]) (by omega)
end Go.Proofs.Ytamkdgjagjpmlaa
