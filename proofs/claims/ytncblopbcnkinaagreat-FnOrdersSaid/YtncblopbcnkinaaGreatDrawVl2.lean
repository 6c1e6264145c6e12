/- Valves that are drawn. -/
import Derived.Test.YtncblopbcnkinaaGreatDrawVl
namespace Go.Proofs.YtncblopbcnkinaaGreat
open Go.Am
set_option linter.unusedVariables false
set_option linter.unusedSimpArgs false
set_option maxRecDepth 100000
set_option maxHeartbeats 40000000
def PVls (H : Heap) (t tc n cc : Nat) (at_ : Int) (v : Value) (H' : Heap) : Prop :=
  ∃ (l : List Vl) (a s : Int), v = .slice (some ⟨H.length, 0, none⟩) l.length l.length ∧ l.length ≤ 20 ∧ at_ ≤ a ∧ a ≤ at_ + 1000 ∧ H' = H.set t (curB tc n cc a s) ++ [some ⟨l.flatMap vlE, true, 71, 4⟩]
structure VlI where
  k : Nat
  j : Nat
  l : List Vl
  d : Int
  a : Int
  s : Int
def VlR (H : Heap) (t tc n cc : Nat) (N : Int) (tp len cp k j : Nat) (l : List Vl) (d a : Int) (fr1 : Fr) (H1 : Heap) : Prop :=
  ∃ (v : Vl) (a' s' : Int), fr1 = [(0, .pointer (some ⟨t, 0, none⟩)), (3, .pointer (some ⟨H.length, 0, none⟩)), (5, .slice (some ⟨H.length + 1, 0, none⟩) (l.length + 1) (l.length + 1)), (6, .int .i64 d), (7, .int .i64 k), (8, .int .i64 j)] ∧ a ≤ a' ∧ a' ≤ a + 2 ∧
    H1 = H.set t (curB tc n cc a' s') ++ [some ⟨[.int .i64 N, .slice (some ⟨tp, 0, none⟩) len cp], true, 26, 1⟩, some ⟨(l ++ [v]).flatMap vlE, true, 71, 4⟩]
theorem valves_R {H : Heap} {t tc n cc : Nat} {at_ seed : Int} (h : Cur H t tc n cc at_ seed) (hA : at_ ≤ 1000000000000000) (N : Int) (hN : N ≤ 60000) (ps : List Pp) (hp : ps.length ≤ 30) (tp cp : Nat) (hP : Sl ppE H tp ps) (hne : tp ≠ t) :
    AFunR Tryz.prog 65 [.pointer (some ⟨t, 0, none⟩), netV N tp ps.length cp] H (PVls H t tc n cc at_) := by
  refine AFunR.of_body Tryz.func65 (by kernel_rfl) rfl (by kernel_rfl) (by simp [Tryz.ntmps65]) ?_
  have ht := h.lt
  have p0 := h.pos
  have htp := hP.lt
  have si := fun (x : Option Blk) (L : Heap) (y : Option Blk) => set_into (H := H) (L := L) (x := x) ht (y := y)
  have s0 := fun (L : Heap) (y : Option Blk) => set_into0 (H := H) (L := L) ht (y := y)
  have c0 := fun (x : Blk) k hk => (Sl.setO hP hne (some x)).cell (s := 4) (fun _ => rfl) pp0 k 0 hk (by omega)
  have c1 := fun (x : Blk) k hk => (Sl.setO hP hne (some x)).cell (s := 4) (fun _ => rfl) pp0 k 1 hk (by omega)
  have c2 := fun (x : Blk) k hk => (Sl.setO hP hne (some x)).cell (s := 4) (fun _ => rfl) pp0 k 2 hk (by omega)
  simp only [ppE, Nat.add_zero] at c0 c1 c2
  have hS0 := Heap.set_self h.blk
  simp -dsimp -implicitDefEqProofs (disch := omega) [go_sem, -List.getD_eq_getElem?_getD, ite_yes, htp]
  refine ALoop.intro (ι := VlI) (fun i => i.k ≤ ps.length ∧ i.l.length ≤ 10 ∧ at_ ≤ i.a ∧ i.a ≤ at_ + 20 * i.k ∧ 0 ≤ i.d ∧ i.d ≤ 6 * i.k) (fun i => [(0, .pointer (some ⟨t, 0, none⟩)), (3, .pointer (some ⟨H.length, 0, none⟩)), (5, .slice (some ⟨H.length + 1, 0, none⟩) i.l.length i.l.length), (6, .int .i64 i.d), (7, .int .i64 i.k)])
    (fun i => H.set t (curB tc n cc i.a i.s) ++ [some ⟨[.int .i64 N, .slice (some ⟨tp, 0, none⟩) ps.length cp], true, 26, 1⟩, some ⟨i.l.flatMap vlE, true, 71, 4⟩]) (fun i => ps.length - i.k) ⟨0, 0, [], 0, at_, seed⟩ ⟨by simp only; omega, by simp, by simp only; omega, by simp only; omega, by simp only; omega, by simp only; omega⟩ ?_ ?_
  · refine WeakS.castH (by rw [hS0]) (weakS_sets [some 0, some 1] rfl ht (h.wms _ _ _ _) ?_ (by simp -dsimp -implicitDefEqProofs (disch := omega) [go_sem, -List.getD_eq_getElem?_getD, ite_yes, ht, htp]))
    simp -dsimp -implicitDefEqProofs (disch := omega) [go_sem, -List.getD_eq_getElem?_getD, ite_yes]
    exact ⟨wl_net htp, .inl ⟨rfl, rfl⟩⟩
  rintro ⟨k, _, l, d, a, s⟩ ⟨i1, i2, i3, i4, i5, i6⟩
  simp only at i1 i2 i3 i4 i5 i6
  have lf := vlE_length l
  by_cases hk : k < ps.length
  rotate_left
  · obtain rfl : k = ps.length := by omega
    clear c0 c1 c2
    simp -dsimp -implicitDefEqProofs (disch := omega) [go_sem, -List.getD_eq_getElem?_getD, ite_yes, htp]
    refine ACall.via (pick_R ((h.step (by omega)).app _) (by omega) 24 (by omega)) ?_
    rintro _ _ ⟨r, rfl, r0, r1, a4, s4, q4, q4', rfl⟩
    simp -dsimp -implicitDefEqProofs (disch := omega) [go_sem, -List.getD_eq_getElem?_getD, ite_yes, si]
    refine AIf.of (fun w0 => ?_) (fun w0 => ?_)
    · simp -dsimp -implicitDefEqProofs (disch := omega) [go_sem, -List.getD_eq_getElem?_getD, ite_yes, si]
      refine ADraw.any [] (by kernel_rfl) (SubH.nil) ?_
      refine AAny.takes (fuel := 10) (by kernel_rfl) (by kernel_rfl) [0, 1, 4, 7] (by kernel_rfl) (by kernel_rfl) ?_
      simp -dsimp -implicitDefEqProofs (disch := omega) [go_sem, -List.getD_eq_getElem?_getD, ite_yes, si, ht, htp, lf]
      refine AAny.three 9 2 5 8 (by kernel_rfl) (by kernel_rfl) (by kernel_rfl) ?_ ?_ ?_
      · simp -dsimp -implicitDefEqProofs (disch := omega) [go_sem, -List.getD_eq_getElem?_getD, ite_yes, si, ht, htp, lf]
        first | refine AAt.of (SubH.nil) ?_ | (refine ⟨?_, AAt.of (SubH.nil) ?_⟩; · omega)
        refine AAny.three 8 3 5 8 (by kernel_rfl) (by kernel_rfl) (by kernel_rfl) ?_ ?_ ?_
        · simp -dsimp -implicitDefEqProofs (disch := omega) [go_sem, -List.getD_eq_getElem?_getD, ite_yes, si, ht, htp, lf]
          refine ACall.via (among_R ((h.step (by omega)).app _) (by omega) [99, 100, 1] (by simp) (by simp) _ _ (by omega) (Sl.nthS 2 rfl rfl)) ?_
          rintro _ _ ⟨y, rfl, ym, a6, s6, q6, q6', rfl⟩
          simp -dsimp -implicitDefEqProofs (disch := omega) [go_sem, -List.getD_eq_getElem?_getD, ite_yes, si, ht, htp, lf]
          first | refine AAt.of (SubH.nil) ?_ | (refine ⟨?_, AAt.of (SubH.nil) ?_⟩; · omega)
          refine AAny.two 7 5 8 (by kernel_rfl) (by kernel_rfl) (by kernel_rfl) ?_ ?_
          · simp -dsimp -implicitDefEqProofs (disch := omega) [go_sem, -List.getD_eq_getElem?_getD, ite_yes, si, ht, htp, lf]
            first | refine AAt.of (SubH.nil) ?_ | (refine ⟨?_, AAt.of (SubH.nil) ?_⟩; · omega)
            refine AAny.two 6 6 8 (by kernel_rfl) (by kernel_rfl) (by kernel_rfl) ?_ ?_
            · simp -dsimp -implicitDefEqProofs (disch := omega) [go_sem, -List.getD_eq_getElem?_getD, ite_yes, si, ht, htp, lf]
              refine ACall.via (pipeOf_R ((h.step (by omega)).app _) (by omega) N ps hp tp cp (Sl.setO hP hne _).app hne) ?_
              rintro _ _ ⟨px, a7, s7, rfl, q7, q7', rfl⟩
              simp -dsimp -implicitDefEqProofs (disch := omega) [go_sem, -List.getD_eq_getElem?_getD, ite_yes, si, ht, htp, lf]
              first | refine AAt.of (SubH.nil) ?_ | (refine ⟨?_, AAt.of (SubH.nil) ?_⟩; · omega)
              refine AAny.one 5 8 (by kernel_rfl) (by kernel_rfl) (by kernel_rfl) ?_
              simp -dsimp -implicitDefEqProofs (disch := omega) [go_sem, -List.getD_eq_getElem?_getD, ite_yes, si, ht, htp, lf]
              first | refine AAt.of (SubH.nil) ?_ | (refine ⟨?_, AAt.of (SubH.nil) ?_⟩; · omega)
              refine AAny.one 4 9 (by kernel_rfl) (by kernel_rfl) (by kernel_rfl) ?_
              simp -dsimp -implicitDefEqProofs (disch := omega) [go_sem, -List.getD_eq_getElem?_getD, ite_yes, si, ht, htp, lf]
              refine ACall.via (nodeOf_R ((h.step (by omega)).app _) (by omega) N hN tp ps.length cp (by simp; omega)) ?_
              rintro _ _ ⟨nd, a8, s8, rfl, q8, q8', rfl⟩
              simp -dsimp -implicitDefEqProofs (disch := omega) [go_sem, -List.getD_eq_getElem?_getD, ite_yes, si, ht, htp, lf]
              first | refine AAt.of (SubH.nil) ?_ | (refine ⟨?_, AAt.of (SubH.nil) ?_⟩; · omega)
              refine AAny.one 3 10 (by kernel_rfl) (by kernel_rfl) (by kernel_rfl) ?_
              simp -dsimp -implicitDefEqProofs (disch := omega) [go_sem, -List.getD_eq_getElem?_getD, ite_yes, si, ht, htp, lf]
              first | refine AAt.of (SubH.nil) ?_ | (refine ⟨?_, AAt.of (SubH.nil) ?_⟩; · omega)
              refine AAny.one 2 11 (by kernel_rfl) (by kernel_rfl) (by kernel_rfl) ?_
              simp -dsimp -implicitDefEqProofs (disch := omega) [go_sem, -List.getD_eq_getElem?_getD, ite_yes, si, ht, htp, lf]
              first | refine AAt.of (SubH.nil) ?_ | (refine ⟨?_, AAt.of (SubH.nil) ?_⟩; · omega)
              refine AAny.one 1 12 (by kernel_rfl) (by kernel_rfl) (by kernel_rfl) ?_
              simp -dsimp -implicitDefEqProofs (disch := omega) [go_sem, -List.getD_eq_getElem?_getD, ite_yes, si, ht, htp, lf]
              first | refine AAt.of (SubH.nil) ?_ | (refine ⟨?_, AAt.of (SubH.nil) ?_⟩; · omega)
              refine AAny.takes (fuel := 0) (by kernel_rfl) (by kernel_rfl) [13] (by kernel_rfl) (by kernel_rfl) ?_
              simp -dsimp -implicitDefEqProofs (disch := omega) [go_sem, -List.getD_eq_getElem?_getD, ite_yes, si, ht, htp, lf]
              refine AAny.done (by kernel_rfl) ?_
              simp -dsimp -implicitDefEqProofs (disch := omega) [go_sem, -List.getD_eq_getElem?_getD, ite_yes, si, ht, htp, lf]
              refine EndR.of (.slice (some ⟨H.length, 0, none⟩) (l ++ [(y, px, nd, false)]).length (l ++ [(y, px, nd, false)]).length) (H.set t (curB tc n cc a8 s8) ++ [some ⟨((l ++ [(y, px, nd, false)])).flatMap vlE, true, 71, 4⟩]) ⟨(l ++ [(y, px, nd, false)]), a8, s8, rfl, by first | omega | (simp; omega), by omega, by omega, rfl⟩ (fin_sets [some 4] rfl ht (h.wms _ _ _ _) ?_ (by simp -dsimp -implicitDefEqProofs (disch := omega) [go_sem, -List.getD_eq_getElem?_getD, ite_yes, ht, htp]))
              simp -dsimp -implicitDefEqProofs (disch := omega) [go_sem, -List.getD_eq_getElem?_getD, ite_yes]
              exact .inl ⟨by simp [vlE], by simp [vlE, flat]⟩
            · simp -dsimp -implicitDefEqProofs (disch := omega) [go_sem, -List.getD_eq_getElem?_getD, ite_yes, si, ht, htp, lf]
              first | refine AAt.of (SubH.nil) ?_ | (refine ⟨?_, AAt.of (SubH.nil) ?_⟩; · omega)
              refine AAny.one 5 6 (by kernel_rfl) (by kernel_rfl) (by kernel_rfl) ?_
              simp -dsimp -implicitDefEqProofs (disch := omega) [go_sem, -List.getD_eq_getElem?_getD, ite_yes, si, ht, htp, lf]
              refine ACall.via (pipeOf_R ((h.step (by omega)).app _) (by omega) N ps hp tp cp (Sl.setO hP hne _).app hne) ?_
              rintro _ _ ⟨px, a7, s7, rfl, q7, q7', rfl⟩
              simp -dsimp -implicitDefEqProofs (disch := omega) [go_sem, -List.getD_eq_getElem?_getD, ite_yes, si, ht, htp, lf]
              first | refine AAt.of (SubH.nil) ?_ | (refine ⟨?_, AAt.of (SubH.nil) ?_⟩; · omega)
              refine AAny.one 4 9 (by kernel_rfl) (by kernel_rfl) (by kernel_rfl) ?_
              simp -dsimp -implicitDefEqProofs (disch := omega) [go_sem, -List.getD_eq_getElem?_getD, ite_yes, si, ht, htp, lf]
              refine ACall.via (nodeOf_R ((h.step (by omega)).app _) (by omega) N hN tp ps.length cp (by simp; omega)) ?_
              rintro _ _ ⟨nd, a8, s8, rfl, q8, q8', rfl⟩
              simp -dsimp -implicitDefEqProofs (disch := omega) [go_sem, -List.getD_eq_getElem?_getD, ite_yes, si, ht, htp, lf]
              first | refine AAt.of (SubH.nil) ?_ | (refine ⟨?_, AAt.of (SubH.nil) ?_⟩; · omega)
              refine AAny.one 3 10 (by kernel_rfl) (by kernel_rfl) (by kernel_rfl) ?_
              simp -dsimp -implicitDefEqProofs (disch := omega) [go_sem, -List.getD_eq_getElem?_getD, ite_yes, si, ht, htp, lf]
              first | refine AAt.of (SubH.nil) ?_ | (refine ⟨?_, AAt.of (SubH.nil) ?_⟩; · omega)
              refine AAny.one 2 11 (by kernel_rfl) (by kernel_rfl) (by kernel_rfl) ?_
              simp -dsimp -implicitDefEqProofs (disch := omega) [go_sem, -List.getD_eq_getElem?_getD, ite_yes, si, ht, htp, lf]
              first | refine AAt.of (SubH.nil) ?_ | (refine ⟨?_, AAt.of (SubH.nil) ?_⟩; · omega)
              refine AAny.one 1 12 (by kernel_rfl) (by kernel_rfl) (by kernel_rfl) ?_
              simp -dsimp -implicitDefEqProofs (disch := omega) [go_sem, -List.getD_eq_getElem?_getD, ite_yes, si, ht, htp, lf]
              first | refine AAt.of (SubH.nil) ?_ | (refine ⟨?_, AAt.of (SubH.nil) ?_⟩; · omega)
              refine AAny.takes (fuel := 0) (by kernel_rfl) (by kernel_rfl) [13] (by kernel_rfl) (by kernel_rfl) ?_
              simp -dsimp -implicitDefEqProofs (disch := omega) [go_sem, -List.getD_eq_getElem?_getD, ite_yes, si, ht, htp, lf]
              refine AAny.done (by kernel_rfl) ?_
              simp -dsimp -implicitDefEqProofs (disch := omega) [go_sem, -List.getD_eq_getElem?_getD, ite_yes, si, ht, htp, lf]
              refine EndR.of (.slice (some ⟨H.length, 0, none⟩) (l ++ [(y, px, nd, false)]).length (l ++ [(y, px, nd, false)]).length) (H.set t (curB tc n cc a8 s8) ++ [some ⟨((l ++ [(y, px, nd, false)])).flatMap vlE, true, 71, 4⟩]) ⟨(l ++ [(y, px, nd, false)]), a8, s8, rfl, by first | omega | (simp; omega), by omega, by omega, rfl⟩ (fin_sets [some 4] rfl ht (h.wms _ _ _ _) ?_ (by simp -dsimp -implicitDefEqProofs (disch := omega) [go_sem, -List.getD_eq_getElem?_getD, ite_yes, ht, htp]))
              simp -dsimp -implicitDefEqProofs (disch := omega) [go_sem, -List.getD_eq_getElem?_getD, ite_yes]
              exact .inl ⟨by simp [vlE], by simp [vlE, flat]⟩
          · simp -dsimp -implicitDefEqProofs (disch := omega) [go_sem, -List.getD_eq_getElem?_getD, ite_yes, si, ht, htp, lf]
            first | refine AAt.of (SubH.nil) ?_ | (refine ⟨?_, AAt.of (SubH.nil) ?_⟩; · omega)
            refine AAny.one 6 5 (by kernel_rfl) (by kernel_rfl) (by kernel_rfl) ?_
            simp -dsimp -implicitDefEqProofs (disch := omega) [go_sem, -List.getD_eq_getElem?_getD, ite_yes, si, ht, htp, lf]
            first | refine AAt.of (SubH.nil) ?_ | (refine ⟨?_, AAt.of (SubH.nil) ?_⟩; · omega)
            refine AAny.one 5 6 (by kernel_rfl) (by kernel_rfl) (by kernel_rfl) ?_
            simp -dsimp -implicitDefEqProofs (disch := omega) [go_sem, -List.getD_eq_getElem?_getD, ite_yes, si, ht, htp, lf]
            refine ACall.via (pipeOf_R ((h.step (by omega)).app _) (by omega) N ps hp tp cp (Sl.setO hP hne _).app hne) ?_
            rintro _ _ ⟨px, a7, s7, rfl, q7, q7', rfl⟩
            simp -dsimp -implicitDefEqProofs (disch := omega) [go_sem, -List.getD_eq_getElem?_getD, ite_yes, si, ht, htp, lf]
            first | refine AAt.of (SubH.nil) ?_ | (refine ⟨?_, AAt.of (SubH.nil) ?_⟩; · omega)
            refine AAny.one 4 9 (by kernel_rfl) (by kernel_rfl) (by kernel_rfl) ?_
            simp -dsimp -implicitDefEqProofs (disch := omega) [go_sem, -List.getD_eq_getElem?_getD, ite_yes, si, ht, htp, lf]
            refine ACall.via (nodeOf_R ((h.step (by omega)).app _) (by omega) N hN tp ps.length cp (by simp; omega)) ?_
            rintro _ _ ⟨nd, a8, s8, rfl, q8, q8', rfl⟩
            simp -dsimp -implicitDefEqProofs (disch := omega) [go_sem, -List.getD_eq_getElem?_getD, ite_yes, si, ht, htp, lf]
            first | refine AAt.of (SubH.nil) ?_ | (refine ⟨?_, AAt.of (SubH.nil) ?_⟩; · omega)
            refine AAny.one 3 10 (by kernel_rfl) (by kernel_rfl) (by kernel_rfl) ?_
            simp -dsimp -implicitDefEqProofs (disch := omega) [go_sem, -List.getD_eq_getElem?_getD, ite_yes, si, ht, htp, lf]
            first | refine AAt.of (SubH.nil) ?_ | (refine ⟨?_, AAt.of (SubH.nil) ?_⟩; · omega)
            refine AAny.one 2 11 (by kernel_rfl) (by kernel_rfl) (by kernel_rfl) ?_
            simp -dsimp -implicitDefEqProofs (disch := omega) [go_sem, -List.getD_eq_getElem?_getD, ite_yes, si, ht, htp, lf]
            first | refine AAt.of (SubH.nil) ?_ | (refine ⟨?_, AAt.of (SubH.nil) ?_⟩; · omega)
            refine AAny.one 1 12 (by kernel_rfl) (by kernel_rfl) (by kernel_rfl) ?_
            simp -dsimp -implicitDefEqProofs (disch := omega) [go_sem, -List.getD_eq_getElem?_getD, ite_yes, si, ht, htp, lf]
            first | refine AAt.of (SubH.nil) ?_ | (refine ⟨?_, AAt.of (SubH.nil) ?_⟩; · omega)
            refine AAny.takes (fuel := 0) (by kernel_rfl) (by kernel_rfl) [13] (by kernel_rfl) (by kernel_rfl) ?_
            simp -dsimp -implicitDefEqProofs (disch := omega) [go_sem, -List.getD_eq_getElem?_getD, ite_yes, si, ht, htp, lf]
            refine AAny.done (by kernel_rfl) ?_
            simp -dsimp -implicitDefEqProofs (disch := omega) [go_sem, -List.getD_eq_getElem?_getD, ite_yes, si, ht, htp, lf]
            refine EndR.of (.slice (some ⟨H.length, 0, none⟩) (l ++ [(y, px, nd, false)]).length (l ++ [(y, px, nd, false)]).length) (H.set t (curB tc n cc a8 s8) ++ [some ⟨((l ++ [(y, px, nd, false)])).flatMap vlE, true, 71, 4⟩]) ⟨(l ++ [(y, px, nd, false)]), a8, s8, rfl, by first | omega | (simp; omega), by omega, by omega, rfl⟩ (fin_sets [some 4] rfl ht (h.wms _ _ _ _) ?_ (by simp -dsimp -implicitDefEqProofs (disch := omega) [go_sem, -List.getD_eq_getElem?_getD, ite_yes, ht, htp]))
            simp -dsimp -implicitDefEqProofs (disch := omega) [go_sem, -List.getD_eq_getElem?_getD, ite_yes]
            exact .inl ⟨by simp [vlE], by simp [vlE, flat]⟩
        · simp -dsimp -implicitDefEqProofs (disch := omega) [go_sem, -List.getD_eq_getElem?_getD, ite_yes, si, ht, htp, lf]
          first | refine AAt.of (SubH.nil) ?_ | (refine ⟨?_, AAt.of (SubH.nil) ?_⟩; · omega)
          refine AAny.two 7 3 8 (by kernel_rfl) (by kernel_rfl) (by kernel_rfl) ?_ ?_
          · simp -dsimp -implicitDefEqProofs (disch := omega) [go_sem, -List.getD_eq_getElem?_getD, ite_yes, si, ht, htp, lf]
            refine ACall.via (among_R ((h.step (by omega)).app _) (by omega) [99, 100, 1] (by simp) (by simp) _ _ (by omega) (Sl.nthS 2 rfl rfl)) ?_
            rintro _ _ ⟨y, rfl, ym, a6, s6, q6, q6', rfl⟩
            simp -dsimp -implicitDefEqProofs (disch := omega) [go_sem, -List.getD_eq_getElem?_getD, ite_yes, si, ht, htp, lf]
            first | refine AAt.of (SubH.nil) ?_ | (refine ⟨?_, AAt.of (SubH.nil) ?_⟩; · omega)
            refine AAny.two 6 6 8 (by kernel_rfl) (by kernel_rfl) (by kernel_rfl) ?_ ?_
            · simp -dsimp -implicitDefEqProofs (disch := omega) [go_sem, -List.getD_eq_getElem?_getD, ite_yes, si, ht, htp, lf]
              refine ACall.via (pipeOf_R ((h.step (by omega)).app _) (by omega) N ps hp tp cp (Sl.setO hP hne _).app hne) ?_
              rintro _ _ ⟨px, a7, s7, rfl, q7, q7', rfl⟩
              simp -dsimp -implicitDefEqProofs (disch := omega) [go_sem, -List.getD_eq_getElem?_getD, ite_yes, si, ht, htp, lf]
              first | refine AAt.of (SubH.nil) ?_ | (refine ⟨?_, AAt.of (SubH.nil) ?_⟩; · omega)
              refine AAny.one 5 8 (by kernel_rfl) (by kernel_rfl) (by kernel_rfl) ?_
              simp -dsimp -implicitDefEqProofs (disch := omega) [go_sem, -List.getD_eq_getElem?_getD, ite_yes, si, ht, htp, lf]
              first | refine AAt.of (SubH.nil) ?_ | (refine ⟨?_, AAt.of (SubH.nil) ?_⟩; · omega)
              refine AAny.one 4 9 (by kernel_rfl) (by kernel_rfl) (by kernel_rfl) ?_
              simp -dsimp -implicitDefEqProofs (disch := omega) [go_sem, -List.getD_eq_getElem?_getD, ite_yes, si, ht, htp, lf]
              refine ACall.via (nodeOf_R ((h.step (by omega)).app _) (by omega) N hN tp ps.length cp (by simp; omega)) ?_
              rintro _ _ ⟨nd, a8, s8, rfl, q8, q8', rfl⟩
              simp -dsimp -implicitDefEqProofs (disch := omega) [go_sem, -List.getD_eq_getElem?_getD, ite_yes, si, ht, htp, lf]
              first | refine AAt.of (SubH.nil) ?_ | (refine ⟨?_, AAt.of (SubH.nil) ?_⟩; · omega)
              refine AAny.one 3 10 (by kernel_rfl) (by kernel_rfl) (by kernel_rfl) ?_
              simp -dsimp -implicitDefEqProofs (disch := omega) [go_sem, -List.getD_eq_getElem?_getD, ite_yes, si, ht, htp, lf]
              first | refine AAt.of (SubH.nil) ?_ | (refine ⟨?_, AAt.of (SubH.nil) ?_⟩; · omega)
              refine AAny.one 2 11 (by kernel_rfl) (by kernel_rfl) (by kernel_rfl) ?_
              simp -dsimp -implicitDefEqProofs (disch := omega) [go_sem, -List.getD_eq_getElem?_getD, ite_yes, si, ht, htp, lf]
              first | refine AAt.of (SubH.nil) ?_ | (refine ⟨?_, AAt.of (SubH.nil) ?_⟩; · omega)
              refine AAny.one 1 12 (by kernel_rfl) (by kernel_rfl) (by kernel_rfl) ?_
              simp -dsimp -implicitDefEqProofs (disch := omega) [go_sem, -List.getD_eq_getElem?_getD, ite_yes, si, ht, htp, lf]
              first | refine AAt.of (SubH.nil) ?_ | (refine ⟨?_, AAt.of (SubH.nil) ?_⟩; · omega)
              refine AAny.takes (fuel := 0) (by kernel_rfl) (by kernel_rfl) [13] (by kernel_rfl) (by kernel_rfl) ?_
              simp -dsimp -implicitDefEqProofs (disch := omega) [go_sem, -List.getD_eq_getElem?_getD, ite_yes, si, ht, htp, lf]
              refine AAny.done (by kernel_rfl) ?_
              simp -dsimp -implicitDefEqProofs (disch := omega) [go_sem, -List.getD_eq_getElem?_getD, ite_yes, si, ht, htp, lf]
              refine EndR.of (.slice (some ⟨H.length, 0, none⟩) (l ++ [(y, px, nd, false)]).length (l ++ [(y, px, nd, false)]).length) (H.set t (curB tc n cc a8 s8) ++ [some ⟨((l ++ [(y, px, nd, false)])).flatMap vlE, true, 71, 4⟩]) ⟨(l ++ [(y, px, nd, false)]), a8, s8, rfl, by first | omega | (simp; omega), by omega, by omega, rfl⟩ (fin_sets [some 4] rfl ht (h.wms _ _ _ _) ?_ (by simp -dsimp -implicitDefEqProofs (disch := omega) [go_sem, -List.getD_eq_getElem?_getD, ite_yes, ht, htp]))
              simp -dsimp -implicitDefEqProofs (disch := omega) [go_sem, -List.getD_eq_getElem?_getD, ite_yes]
              exact .inl ⟨by simp [vlE], by simp [vlE, flat]⟩
            · simp -dsimp -implicitDefEqProofs (disch := omega) [go_sem, -List.getD_eq_getElem?_getD, ite_yes, si, ht, htp, lf]
              first | refine AAt.of (SubH.nil) ?_ | (refine ⟨?_, AAt.of (SubH.nil) ?_⟩; · omega)
              refine AAny.one 5 6 (by kernel_rfl) (by kernel_rfl) (by kernel_rfl) ?_
              simp -dsimp -implicitDefEqProofs (disch := omega) [go_sem, -List.getD_eq_getElem?_getD, ite_yes, si, ht, htp, lf]
              refine ACall.via (pipeOf_R ((h.step (by omega)).app _) (by omega) N ps hp tp cp (Sl.setO hP hne _).app hne) ?_
              rintro _ _ ⟨px, a7, s7, rfl, q7, q7', rfl⟩
              simp -dsimp -implicitDefEqProofs (disch := omega) [go_sem, -List.getD_eq_getElem?_getD, ite_yes, si, ht, htp, lf]
              first | refine AAt.of (SubH.nil) ?_ | (refine ⟨?_, AAt.of (SubH.nil) ?_⟩; · omega)
              refine AAny.one 4 9 (by kernel_rfl) (by kernel_rfl) (by kernel_rfl) ?_
              simp -dsimp -implicitDefEqProofs (disch := omega) [go_sem, -List.getD_eq_getElem?_getD, ite_yes, si, ht, htp, lf]
              refine ACall.via (nodeOf_R ((h.step (by omega)).app _) (by omega) N hN tp ps.length cp (by simp; omega)) ?_
              rintro _ _ ⟨nd, a8, s8, rfl, q8, q8', rfl⟩
              simp -dsimp -implicitDefEqProofs (disch := omega) [go_sem, -List.getD_eq_getElem?_getD, ite_yes, si, ht, htp, lf]
              first | refine AAt.of (SubH.nil) ?_ | (refine ⟨?_, AAt.of (SubH.nil) ?_⟩; · omega)
              refine AAny.one 3 10 (by kernel_rfl) (by kernel_rfl) (by kernel_rfl) ?_
              simp -dsimp -implicitDefEqProofs (disch := omega) [go_sem, -List.getD_eq_getElem?_getD, ite_yes, si, ht, htp, lf]
              first | refine AAt.of (SubH.nil) ?_ | (refine ⟨?_, AAt.of (SubH.nil) ?_⟩; · omega)
              refine AAny.one 2 11 (by kernel_rfl) (by kernel_rfl) (by kernel_rfl) ?_
              simp -dsimp -implicitDefEqProofs (disch := omega) [go_sem, -List.getD_eq_getElem?_getD, ite_yes, si, ht, htp, lf]
              first | refine AAt.of (SubH.nil) ?_ | (refine ⟨?_, AAt.of (SubH.nil) ?_⟩; · omega)
              refine AAny.one 1 12 (by kernel_rfl) (by kernel_rfl) (by kernel_rfl) ?_
              simp -dsimp -implicitDefEqProofs (disch := omega) [go_sem, -List.getD_eq_getElem?_getD, ite_yes, si, ht, htp, lf]
              first | refine AAt.of (SubH.nil) ?_ | (refine ⟨?_, AAt.of (SubH.nil) ?_⟩; · omega)
              refine AAny.takes (fuel := 0) (by kernel_rfl) (by kernel_rfl) [13] (by kernel_rfl) (by kernel_rfl) ?_
              simp -dsimp -implicitDefEqProofs (disch := omega) [go_sem, -List.getD_eq_getElem?_getD, ite_yes, si, ht, htp, lf]
              refine AAny.done (by kernel_rfl) ?_
              simp -dsimp -implicitDefEqProofs (disch := omega) [go_sem, -List.getD_eq_getElem?_getD, ite_yes, si, ht, htp, lf]
              refine EndR.of (.slice (some ⟨H.length, 0, none⟩) (l ++ [(y, px, nd, false)]).length (l ++ [(y, px, nd, false)]).length) (H.set t (curB tc n cc a8 s8) ++ [some ⟨((l ++ [(y, px, nd, false)])).flatMap vlE, true, 71, 4⟩]) ⟨(l ++ [(y, px, nd, false)]), a8, s8, rfl, by first | omega | (simp; omega), by omega, by omega, rfl⟩ (fin_sets [some 4] rfl ht (h.wms _ _ _ _) ?_ (by simp -dsimp -implicitDefEqProofs (disch := omega) [go_sem, -List.getD_eq_getElem?_getD, ite_yes, ht, htp]))
              simp -dsimp -implicitDefEqProofs (disch := omega) [go_sem, -List.getD_eq_getElem?_getD, ite_yes]
              exact .inl ⟨by simp [vlE], by simp [vlE, flat]⟩
          · simp -dsimp -implicitDefEqProofs (disch := omega) [go_sem, -List.getD_eq_getElem?_getD, ite_yes, si, ht, htp, lf]
            first | refine AAt.of (SubH.nil) ?_ | (refine ⟨?_, AAt.of (SubH.nil) ?_⟩; · omega)
            refine AAny.one 6 3 (by kernel_rfl) (by kernel_rfl) (by kernel_rfl) ?_
            simp -dsimp -implicitDefEqProofs (disch := omega) [go_sem, -List.getD_eq_getElem?_getD, ite_yes, si, ht, htp, lf]
            refine ACall.via (among_R ((h.step (by omega)).app _) (by omega) [99, 100, 1] (by simp) (by simp) _ _ (by omega) (Sl.nthS 2 rfl rfl)) ?_
            rintro _ _ ⟨y, rfl, ym, a6, s6, q6, q6', rfl⟩
            simp -dsimp -implicitDefEqProofs (disch := omega) [go_sem, -List.getD_eq_getElem?_getD, ite_yes, si, ht, htp, lf]
            first | refine AAt.of (SubH.nil) ?_ | (refine ⟨?_, AAt.of (SubH.nil) ?_⟩; · omega)
            refine AAny.one 5 6 (by kernel_rfl) (by kernel_rfl) (by kernel_rfl) ?_
            simp -dsimp -implicitDefEqProofs (disch := omega) [go_sem, -List.getD_eq_getElem?_getD, ite_yes, si, ht, htp, lf]
            refine ACall.via (pipeOf_R ((h.step (by omega)).app _) (by omega) N ps hp tp cp (Sl.setO hP hne _).app hne) ?_
            rintro _ _ ⟨px, a7, s7, rfl, q7, q7', rfl⟩
            simp -dsimp -implicitDefEqProofs (disch := omega) [go_sem, -List.getD_eq_getElem?_getD, ite_yes, si, ht, htp, lf]
            first | refine AAt.of (SubH.nil) ?_ | (refine ⟨?_, AAt.of (SubH.nil) ?_⟩; · omega)
            refine AAny.one 4 9 (by kernel_rfl) (by kernel_rfl) (by kernel_rfl) ?_
            simp -dsimp -implicitDefEqProofs (disch := omega) [go_sem, -List.getD_eq_getElem?_getD, ite_yes, si, ht, htp, lf]
            refine ACall.via (nodeOf_R ((h.step (by omega)).app _) (by omega) N hN tp ps.length cp (by simp; omega)) ?_
            rintro _ _ ⟨nd, a8, s8, rfl, q8, q8', rfl⟩
            simp -dsimp -implicitDefEqProofs (disch := omega) [go_sem, -List.getD_eq_getElem?_getD, ite_yes, si, ht, htp, lf]
            first | refine AAt.of (SubH.nil) ?_ | (refine ⟨?_, AAt.of (SubH.nil) ?_⟩; · omega)
            refine AAny.one 3 10 (by kernel_rfl) (by kernel_rfl) (by kernel_rfl) ?_
            simp -dsimp -implicitDefEqProofs (disch := omega) [go_sem, -List.getD_eq_getElem?_getD, ite_yes, si, ht, htp, lf]
            first | refine AAt.of (SubH.nil) ?_ | (refine ⟨?_, AAt.of (SubH.nil) ?_⟩; · omega)
            refine AAny.one 2 11 (by kernel_rfl) (by kernel_rfl) (by kernel_rfl) ?_
            simp -dsimp -implicitDefEqProofs (disch := omega) [go_sem, -List.getD_eq_getElem?_getD, ite_yes, si, ht, htp, lf]
            first | refine AAt.of (SubH.nil) ?_ | (refine ⟨?_, AAt.of (SubH.nil) ?_⟩; · omega)
            refine AAny.one 1 12 (by kernel_rfl) (by kernel_rfl) (by kernel_rfl) ?_
            simp -dsimp -implicitDefEqProofs (disch := omega) [go_sem, -List.getD_eq_getElem?_getD, ite_yes, si, ht, htp, lf]
            first | refine AAt.of (SubH.nil) ?_ | (refine ⟨?_, AAt.of (SubH.nil) ?_⟩; · omega)
            refine AAny.takes (fuel := 0) (by kernel_rfl) (by kernel_rfl) [13] (by kernel_rfl) (by kernel_rfl) ?_
            simp -dsimp -implicitDefEqProofs (disch := omega) [go_sem, -List.getD_eq_getElem?_getD, ite_yes, si, ht, htp, lf]
            refine AAny.done (by kernel_rfl) ?_
            simp -dsimp -implicitDefEqProofs (disch := omega) [go_sem, -List.getD_eq_getElem?_getD, ite_yes, si, ht, htp, lf]
            refine EndR.of (.slice (some ⟨H.length, 0, none⟩) (l ++ [(y, px, nd, false)]).length (l ++ [(y, px, nd, false)]).length) (H.set t (curB tc n cc a8 s8) ++ [some ⟨((l ++ [(y, px, nd, false)])).flatMap vlE, true, 71, 4⟩]) ⟨(l ++ [(y, px, nd, false)]), a8, s8, rfl, by first | omega | (simp; omega), by omega, by omega, rfl⟩ (fin_sets [some 4] rfl ht (h.wms _ _ _ _) ?_ (by simp -dsimp -implicitDefEqProofs (disch := omega) [go_sem, -List.getD_eq_getElem?_getD, ite_yes, ht, htp]))
            simp -dsimp -implicitDefEqProofs (disch := omega) [go_sem, -List.getD_eq_getElem?_getD, ite_yes]
            exact .inl ⟨by simp [vlE], by simp [vlE, flat]⟩
        · simp -dsimp -implicitDefEqProofs (disch := omega) [go_sem, -List.getD_eq_getElem?_getD, ite_yes, si, ht, htp, lf]
          first | refine AAt.of (SubH.nil) ?_ | (refine ⟨?_, AAt.of (SubH.nil) ?_⟩; · omega)
          refine AAny.two 7 3 5 (by kernel_rfl) (by kernel_rfl) (by kernel_rfl) ?_ ?_
          · simp -dsimp -implicitDefEqProofs (disch := omega) [go_sem, -List.getD_eq_getElem?_getD, ite_yes, si, ht, htp, lf]
            refine ACall.via (among_R ((h.step (by omega)).app _) (by omega) [99, 100, 1] (by simp) (by simp) _ _ (by omega) (Sl.nthS 2 rfl rfl)) ?_
            rintro _ _ ⟨y, rfl, ym, a6, s6, q6, q6', rfl⟩
            simp -dsimp -implicitDefEqProofs (disch := omega) [go_sem, -List.getD_eq_getElem?_getD, ite_yes, si, ht, htp, lf]
            first | refine AAt.of (SubH.nil) ?_ | (refine ⟨?_, AAt.of (SubH.nil) ?_⟩; · omega)
            refine AAny.one 6 5 (by kernel_rfl) (by kernel_rfl) (by kernel_rfl) ?_
            simp -dsimp -implicitDefEqProofs (disch := omega) [go_sem, -List.getD_eq_getElem?_getD, ite_yes, si, ht, htp, lf]
            first | refine AAt.of (SubH.nil) ?_ | (refine ⟨?_, AAt.of (SubH.nil) ?_⟩; · omega)
            refine AAny.one 5 6 (by kernel_rfl) (by kernel_rfl) (by kernel_rfl) ?_
            simp -dsimp -implicitDefEqProofs (disch := omega) [go_sem, -List.getD_eq_getElem?_getD, ite_yes, si, ht, htp, lf]
            refine ACall.via (pipeOf_R ((h.step (by omega)).app _) (by omega) N ps hp tp cp (Sl.setO hP hne _).app hne) ?_
            rintro _ _ ⟨px, a7, s7, rfl, q7, q7', rfl⟩
            simp -dsimp -implicitDefEqProofs (disch := omega) [go_sem, -List.getD_eq_getElem?_getD, ite_yes, si, ht, htp, lf]
            first | refine AAt.of (SubH.nil) ?_ | (refine ⟨?_, AAt.of (SubH.nil) ?_⟩; · omega)
            refine AAny.one 4 9 (by kernel_rfl) (by kernel_rfl) (by kernel_rfl) ?_
            simp -dsimp -implicitDefEqProofs (disch := omega) [go_sem, -List.getD_eq_getElem?_getD, ite_yes, si, ht, htp, lf]
            refine ACall.via (nodeOf_R ((h.step (by omega)).app _) (by omega) N hN tp ps.length cp (by simp; omega)) ?_
            rintro _ _ ⟨nd, a8, s8, rfl, q8, q8', rfl⟩
            simp -dsimp -implicitDefEqProofs (disch := omega) [go_sem, -List.getD_eq_getElem?_getD, ite_yes, si, ht, htp, lf]
            first | refine AAt.of (SubH.nil) ?_ | (refine ⟨?_, AAt.of (SubH.nil) ?_⟩; · omega)
            refine AAny.one 3 10 (by kernel_rfl) (by kernel_rfl) (by kernel_rfl) ?_
            simp -dsimp -implicitDefEqProofs (disch := omega) [go_sem, -List.getD_eq_getElem?_getD, ite_yes, si, ht, htp, lf]
            first | refine AAt.of (SubH.nil) ?_ | (refine ⟨?_, AAt.of (SubH.nil) ?_⟩; · omega)
            refine AAny.one 2 11 (by kernel_rfl) (by kernel_rfl) (by kernel_rfl) ?_
            simp -dsimp -implicitDefEqProofs (disch := omega) [go_sem, -List.getD_eq_getElem?_getD, ite_yes, si, ht, htp, lf]
            first | refine AAt.of (SubH.nil) ?_ | (refine ⟨?_, AAt.of (SubH.nil) ?_⟩; · omega)
            refine AAny.one 1 12 (by kernel_rfl) (by kernel_rfl) (by kernel_rfl) ?_
            simp -dsimp -implicitDefEqProofs (disch := omega) [go_sem, -List.getD_eq_getElem?_getD, ite_yes, si, ht, htp, lf]
            first | refine AAt.of (SubH.nil) ?_ | (refine ⟨?_, AAt.of (SubH.nil) ?_⟩; · omega)
            refine AAny.takes (fuel := 0) (by kernel_rfl) (by kernel_rfl) [13] (by kernel_rfl) (by kernel_rfl) ?_
            simp -dsimp -implicitDefEqProofs (disch := omega) [go_sem, -List.getD_eq_getElem?_getD, ite_yes, si, ht, htp, lf]
            refine AAny.done (by kernel_rfl) ?_
            simp -dsimp -implicitDefEqProofs (disch := omega) [go_sem, -List.getD_eq_getElem?_getD, ite_yes, si, ht, htp, lf]
            refine EndR.of (.slice (some ⟨H.length, 0, none⟩) (l ++ [(y, px, nd, false)]).length (l ++ [(y, px, nd, false)]).length) (H.set t (curB tc n cc a8 s8) ++ [some ⟨((l ++ [(y, px, nd, false)])).flatMap vlE, true, 71, 4⟩]) ⟨(l ++ [(y, px, nd, false)]), a8, s8, rfl, by first | omega | (simp; omega), by omega, by omega, rfl⟩ (fin_sets [some 4] rfl ht (h.wms _ _ _ _) ?_ (by simp -dsimp -implicitDefEqProofs (disch := omega) [go_sem, -List.getD_eq_getElem?_getD, ite_yes, ht, htp]))
            simp -dsimp -implicitDefEqProofs (disch := omega) [go_sem, -List.getD_eq_getElem?_getD, ite_yes]
            exact .inl ⟨by simp [vlE], by simp [vlE, flat]⟩
          · simp -dsimp -implicitDefEqProofs (disch := omega) [go_sem, -List.getD_eq_getElem?_getD, ite_yes, si, ht, htp, lf]
            first | refine AAt.of (SubH.nil) ?_ | (refine ⟨?_, AAt.of (SubH.nil) ?_⟩; · omega)
            refine AAny.one 6 3 (by kernel_rfl) (by kernel_rfl) (by kernel_rfl) ?_
            simp -dsimp -implicitDefEqProofs (disch := omega) [go_sem, -List.getD_eq_getElem?_getD, ite_yes, si, ht, htp, lf]
            refine ACall.via (among_R ((h.step (by omega)).app _) (by omega) [99, 100, 1] (by simp) (by simp) _ _ (by omega) (Sl.nthS 2 rfl rfl)) ?_
            rintro _ _ ⟨y, rfl, ym, a6, s6, q6, q6', rfl⟩
            simp -dsimp -implicitDefEqProofs (disch := omega) [go_sem, -List.getD_eq_getElem?_getD, ite_yes, si, ht, htp, lf]
            first | refine AAt.of (SubH.nil) ?_ | (refine ⟨?_, AAt.of (SubH.nil) ?_⟩; · omega)
            refine AAny.one 5 6 (by kernel_rfl) (by kernel_rfl) (by kernel_rfl) ?_
            simp -dsimp -implicitDefEqProofs (disch := omega) [go_sem, -List.getD_eq_getElem?_getD, ite_yes, si, ht, htp, lf]
            refine ACall.via (pipeOf_R ((h.step (by omega)).app _) (by omega) N ps hp tp cp (Sl.setO hP hne _).app hne) ?_
            rintro _ _ ⟨px, a7, s7, rfl, q7, q7', rfl⟩
            simp -dsimp -implicitDefEqProofs (disch := omega) [go_sem, -List.getD_eq_getElem?_getD, ite_yes, si, ht, htp, lf]
            first | refine AAt.of (SubH.nil) ?_ | (refine ⟨?_, AAt.of (SubH.nil) ?_⟩; · omega)
            refine AAny.one 4 9 (by kernel_rfl) (by kernel_rfl) (by kernel_rfl) ?_
            simp -dsimp -implicitDefEqProofs (disch := omega) [go_sem, -List.getD_eq_getElem?_getD, ite_yes, si, ht, htp, lf]
            refine ACall.via (nodeOf_R ((h.step (by omega)).app _) (by omega) N hN tp ps.length cp (by simp; omega)) ?_
            rintro _ _ ⟨nd, a8, s8, rfl, q8, q8', rfl⟩
            simp -dsimp -implicitDefEqProofs (disch := omega) [go_sem, -List.getD_eq_getElem?_getD, ite_yes, si, ht, htp, lf]
            first | refine AAt.of (SubH.nil) ?_ | (refine ⟨?_, AAt.of (SubH.nil) ?_⟩; · omega)
            refine AAny.one 3 10 (by kernel_rfl) (by kernel_rfl) (by kernel_rfl) ?_
            simp -dsimp -implicitDefEqProofs (disch := omega) [go_sem, -List.getD_eq_getElem?_getD, ite_yes, si, ht, htp, lf]
            first | refine AAt.of (SubH.nil) ?_ | (refine ⟨?_, AAt.of (SubH.nil) ?_⟩; · omega)
            refine AAny.one 2 11 (by kernel_rfl) (by kernel_rfl) (by kernel_rfl) ?_
            simp -dsimp -implicitDefEqProofs (disch := omega) [go_sem, -List.getD_eq_getElem?_getD, ite_yes, si, ht, htp, lf]
            first | refine AAt.of (SubH.nil) ?_ | (refine ⟨?_, AAt.of (SubH.nil) ?_⟩; · omega)
            refine AAny.one 1 12 (by kernel_rfl) (by kernel_rfl) (by kernel_rfl) ?_
            simp -dsimp -implicitDefEqProofs (disch := omega) [go_sem, -List.getD_eq_getElem?_getD, ite_yes, si, ht, htp, lf]
            first | refine AAt.of (SubH.nil) ?_ | (refine ⟨?_, AAt.of (SubH.nil) ?_⟩; · omega)
            refine AAny.takes (fuel := 0) (by kernel_rfl) (by kernel_rfl) [13] (by kernel_rfl) (by kernel_rfl) ?_
            simp -dsimp -implicitDefEqProofs (disch := omega) [go_sem, -List.getD_eq_getElem?_getD, ite_yes, si, ht, htp, lf]
            refine AAny.done (by kernel_rfl) ?_
            simp -dsimp -implicitDefEqProofs (disch := omega) [go_sem, -List.getD_eq_getElem?_getD, ite_yes, si, ht, htp, lf]
            refine EndR.of (.slice (some ⟨H.length, 0, none⟩) (l ++ [(y, px, nd, false)]).length (l ++ [(y, px, nd, false)]).length) (H.set t (curB tc n cc a8 s8) ++ [some ⟨((l ++ [(y, px, nd, false)])).flatMap vlE, true, 71, 4⟩]) ⟨(l ++ [(y, px, nd, false)]), a8, s8, rfl, by first | omega | (simp; omega), by omega, by omega, rfl⟩ (fin_sets [some 4] rfl ht (h.wms _ _ _ _) ?_ (by simp -dsimp -implicitDefEqProofs (disch := omega) [go_sem, -List.getD_eq_getElem?_getD, ite_yes, ht, htp]))
            simp -dsimp -implicitDefEqProofs (disch := omega) [go_sem, -List.getD_eq_getElem?_getD, ite_yes]
            exact .inl ⟨by simp [vlE], by simp [vlE, flat]⟩
      · simp -dsimp -implicitDefEqProofs (disch := omega) [go_sem, -List.getD_eq_getElem?_getD, ite_yes, si, ht, htp, lf]
        first | refine AAt.of (SubH.nil) ?_ | (refine ⟨?_, AAt.of (SubH.nil) ?_⟩; · omega)
        refine AAny.two 8 2 8 (by kernel_rfl) (by kernel_rfl) (by kernel_rfl) ?_ ?_
        · simp -dsimp -implicitDefEqProofs (disch := omega) [go_sem, -List.getD_eq_getElem?_getD, ite_yes, si, ht, htp, lf]
          first | refine AAt.of (SubH.nil) ?_ | (refine ⟨?_, AAt.of (SubH.nil) ?_⟩; · omega)
          refine AAny.two 7 3 8 (by kernel_rfl) (by kernel_rfl) (by kernel_rfl) ?_ ?_
          · simp -dsimp -implicitDefEqProofs (disch := omega) [go_sem, -List.getD_eq_getElem?_getD, ite_yes, si, ht, htp, lf]
            refine ACall.via (among_R ((h.step (by omega)).app _) (by omega) [99, 100, 1] (by simp) (by simp) _ _ (by omega) (Sl.nthS 2 rfl rfl)) ?_
            rintro _ _ ⟨y, rfl, ym, a6, s6, q6, q6', rfl⟩
            simp -dsimp -implicitDefEqProofs (disch := omega) [go_sem, -List.getD_eq_getElem?_getD, ite_yes, si, ht, htp, lf]
            first | refine AAt.of (SubH.nil) ?_ | (refine ⟨?_, AAt.of (SubH.nil) ?_⟩; · omega)
            refine AAny.two 6 6 8 (by kernel_rfl) (by kernel_rfl) (by kernel_rfl) ?_ ?_
            · simp -dsimp -implicitDefEqProofs (disch := omega) [go_sem, -List.getD_eq_getElem?_getD, ite_yes, si, ht, htp, lf]
              refine ACall.via (pipeOf_R ((h.step (by omega)).app _) (by omega) N ps hp tp cp (Sl.setO hP hne _).app hne) ?_
              rintro _ _ ⟨px, a7, s7, rfl, q7, q7', rfl⟩
              simp -dsimp -implicitDefEqProofs (disch := omega) [go_sem, -List.getD_eq_getElem?_getD, ite_yes, si, ht, htp, lf]
              first | refine AAt.of (SubH.nil) ?_ | (refine ⟨?_, AAt.of (SubH.nil) ?_⟩; · omega)
              refine AAny.one 5 8 (by kernel_rfl) (by kernel_rfl) (by kernel_rfl) ?_
              simp -dsimp -implicitDefEqProofs (disch := omega) [go_sem, -List.getD_eq_getElem?_getD, ite_yes, si, ht, htp, lf]
              first | refine AAt.of (SubH.nil) ?_ | (refine ⟨?_, AAt.of (SubH.nil) ?_⟩; · omega)
              refine AAny.one 4 9 (by kernel_rfl) (by kernel_rfl) (by kernel_rfl) ?_
              simp -dsimp -implicitDefEqProofs (disch := omega) [go_sem, -List.getD_eq_getElem?_getD, ite_yes, si, ht, htp, lf]
              refine ACall.via (nodeOf_R ((h.step (by omega)).app _) (by omega) N hN tp ps.length cp (by simp; omega)) ?_
              rintro _ _ ⟨nd, a8, s8, rfl, q8, q8', rfl⟩
              simp -dsimp -implicitDefEqProofs (disch := omega) [go_sem, -List.getD_eq_getElem?_getD, ite_yes, si, ht, htp, lf]
              first | refine AAt.of (SubH.nil) ?_ | (refine ⟨?_, AAt.of (SubH.nil) ?_⟩; · omega)
              refine AAny.one 3 10 (by kernel_rfl) (by kernel_rfl) (by kernel_rfl) ?_
              simp -dsimp -implicitDefEqProofs (disch := omega) [go_sem, -List.getD_eq_getElem?_getD, ite_yes, si, ht, htp, lf]
              first | refine AAt.of (SubH.nil) ?_ | (refine ⟨?_, AAt.of (SubH.nil) ?_⟩; · omega)
              refine AAny.one 2 11 (by kernel_rfl) (by kernel_rfl) (by kernel_rfl) ?_
              simp -dsimp -implicitDefEqProofs (disch := omega) [go_sem, -List.getD_eq_getElem?_getD, ite_yes, si, ht, htp, lf]
              first | refine AAt.of (SubH.nil) ?_ | (refine ⟨?_, AAt.of (SubH.nil) ?_⟩; · omega)
              refine AAny.one 1 12 (by kernel_rfl) (by kernel_rfl) (by kernel_rfl) ?_
              simp -dsimp -implicitDefEqProofs (disch := omega) [go_sem, -List.getD_eq_getElem?_getD, ite_yes, si, ht, htp, lf]
              first | refine AAt.of (SubH.nil) ?_ | (refine ⟨?_, AAt.of (SubH.nil) ?_⟩; · omega)
              refine AAny.takes (fuel := 0) (by kernel_rfl) (by kernel_rfl) [13] (by kernel_rfl) (by kernel_rfl) ?_
              simp -dsimp -implicitDefEqProofs (disch := omega) [go_sem, -List.getD_eq_getElem?_getD, ite_yes, si, ht, htp, lf]
              refine AAny.done (by kernel_rfl) ?_
              simp -dsimp -implicitDefEqProofs (disch := omega) [go_sem, -List.getD_eq_getElem?_getD, ite_yes, si, ht, htp, lf]
              refine EndR.of (.slice (some ⟨H.length, 0, none⟩) (l ++ [(y, px, nd, false)]).length (l ++ [(y, px, nd, false)]).length) (H.set t (curB tc n cc a8 s8) ++ [some ⟨((l ++ [(y, px, nd, false)])).flatMap vlE, true, 71, 4⟩]) ⟨(l ++ [(y, px, nd, false)]), a8, s8, rfl, by first | omega | (simp; omega), by omega, by omega, rfl⟩ (fin_sets [some 4] rfl ht (h.wms _ _ _ _) ?_ (by simp -dsimp -implicitDefEqProofs (disch := omega) [go_sem, -List.getD_eq_getElem?_getD, ite_yes, ht, htp]))
              simp -dsimp -implicitDefEqProofs (disch := omega) [go_sem, -List.getD_eq_getElem?_getD, ite_yes]
              exact .inl ⟨by simp [vlE], by simp [vlE, flat]⟩
            · simp -dsimp -implicitDefEqProofs (disch := omega) [go_sem, -List.getD_eq_getElem?_getD, ite_yes, si, ht, htp, lf]
              first | refine AAt.of (SubH.nil) ?_ | (refine ⟨?_, AAt.of (SubH.nil) ?_⟩; · omega)
              refine AAny.one 5 6 (by kernel_rfl) (by kernel_rfl) (by kernel_rfl) ?_
              simp -dsimp -implicitDefEqProofs (disch := omega) [go_sem, -List.getD_eq_getElem?_getD, ite_yes, si, ht, htp, lf]
              refine ACall.via (pipeOf_R ((h.step (by omega)).app _) (by omega) N ps hp tp cp (Sl.setO hP hne _).app hne) ?_
              rintro _ _ ⟨px, a7, s7, rfl, q7, q7', rfl⟩
              simp -dsimp -implicitDefEqProofs (disch := omega) [go_sem, -List.getD_eq_getElem?_getD, ite_yes, si, ht, htp, lf]
              first | refine AAt.of (SubH.nil) ?_ | (refine ⟨?_, AAt.of (SubH.nil) ?_⟩; · omega)
              refine AAny.one 4 9 (by kernel_rfl) (by kernel_rfl) (by kernel_rfl) ?_
              simp -dsimp -implicitDefEqProofs (disch := omega) [go_sem, -List.getD_eq_getElem?_getD, ite_yes, si, ht, htp, lf]
              refine ACall.via (nodeOf_R ((h.step (by omega)).app _) (by omega) N hN tp ps.length cp (by simp; omega)) ?_
              rintro _ _ ⟨nd, a8, s8, rfl, q8, q8', rfl⟩
              simp -dsimp -implicitDefEqProofs (disch := omega) [go_sem, -List.getD_eq_getElem?_getD, ite_yes, si, ht, htp, lf]
              first | refine AAt.of (SubH.nil) ?_ | (refine ⟨?_, AAt.of (SubH.nil) ?_⟩; · omega)
              refine AAny.one 3 10 (by kernel_rfl) (by kernel_rfl) (by kernel_rfl) ?_
              simp -dsimp -implicitDefEqProofs (disch := omega) [go_sem, -List.getD_eq_getElem?_getD, ite_yes, si, ht, htp, lf]
              first | refine AAt.of (SubH.nil) ?_ | (refine ⟨?_, AAt.of (SubH.nil) ?_⟩; · omega)
              refine AAny.one 2 11 (by kernel_rfl) (by kernel_rfl) (by kernel_rfl) ?_
              simp -dsimp -implicitDefEqProofs (disch := omega) [go_sem, -List.getD_eq_getElem?_getD, ite_yes, si, ht, htp, lf]
              first | refine AAt.of (SubH.nil) ?_ | (refine ⟨?_, AAt.of (SubH.nil) ?_⟩; · omega)
              refine AAny.one 1 12 (by kernel_rfl) (by kernel_rfl) (by kernel_rfl) ?_
              simp -dsimp -implicitDefEqProofs (disch := omega) [go_sem, -List.getD_eq_getElem?_getD, ite_yes, si, ht, htp, lf]
              first | refine AAt.of (SubH.nil) ?_ | (refine ⟨?_, AAt.of (SubH.nil) ?_⟩; · omega)
              refine AAny.takes (fuel := 0) (by kernel_rfl) (by kernel_rfl) [13] (by kernel_rfl) (by kernel_rfl) ?_
              simp -dsimp -implicitDefEqProofs (disch := omega) [go_sem, -List.getD_eq_getElem?_getD, ite_yes, si, ht, htp, lf]
              refine AAny.done (by kernel_rfl) ?_
              simp -dsimp -implicitDefEqProofs (disch := omega) [go_sem, -List.getD_eq_getElem?_getD, ite_yes, si, ht, htp, lf]
              refine EndR.of (.slice (some ⟨H.length, 0, none⟩) (l ++ [(y, px, nd, false)]).length (l ++ [(y, px, nd, false)]).length) (H.set t (curB tc n cc a8 s8) ++ [some ⟨((l ++ [(y, px, nd, false)])).flatMap vlE, true, 71, 4⟩]) ⟨(l ++ [(y, px, nd, false)]), a8, s8, rfl, by first | omega | (simp; omega), by omega, by omega, rfl⟩ (fin_sets [some 4] rfl ht (h.wms _ _ _ _) ?_ (by simp -dsimp -implicitDefEqProofs (disch := omega) [go_sem, -List.getD_eq_getElem?_getD, ite_yes, ht, htp]))
              simp -dsimp -implicitDefEqProofs (disch := omega) [go_sem, -List.getD_eq_getElem?_getD, ite_yes]
              exact .inl ⟨by simp [vlE], by simp [vlE, flat]⟩
          · simp -dsimp -implicitDefEqProofs (disch := omega) [go_sem, -List.getD_eq_getElem?_getD, ite_yes, si, ht, htp, lf]
            first | refine AAt.of (SubH.nil) ?_ | (refine ⟨?_, AAt.of (SubH.nil) ?_⟩; · omega)
            refine AAny.one 6 3 (by kernel_rfl) (by kernel_rfl) (by kernel_rfl) ?_
            simp -dsimp -implicitDefEqProofs (disch := omega) [go_sem, -List.getD_eq_getElem?_getD, ite_yes, si, ht, htp, lf]
            refine ACall.via (among_R ((h.step (by omega)).app _) (by omega) [99, 100, 1] (by simp) (by simp) _ _ (by omega) (Sl.nthS 2 rfl rfl)) ?_
            rintro _ _ ⟨y, rfl, ym, a6, s6, q6, q6', rfl⟩
            simp -dsimp -implicitDefEqProofs (disch := omega) [go_sem, -List.getD_eq_getElem?_getD, ite_yes, si, ht, htp, lf]
            first | refine AAt.of (SubH.nil) ?_ | (refine ⟨?_, AAt.of (SubH.nil) ?_⟩; · omega)
            refine AAny.one 5 6 (by kernel_rfl) (by kernel_rfl) (by kernel_rfl) ?_
            simp -dsimp -implicitDefEqProofs (disch := omega) [go_sem, -List.getD_eq_getElem?_getD, ite_yes, si, ht, htp, lf]
            refine ACall.via (pipeOf_R ((h.step (by omega)).app _) (by omega) N ps hp tp cp (Sl.setO hP hne _).app hne) ?_
            rintro _ _ ⟨px, a7, s7, rfl, q7, q7', rfl⟩
            simp -dsimp -implicitDefEqProofs (disch := omega) [go_sem, -List.getD_eq_getElem?_getD, ite_yes, si, ht, htp, lf]
            first | refine AAt.of (SubH.nil) ?_ | (refine ⟨?_, AAt.of (SubH.nil) ?_⟩; · omega)
            refine AAny.one 4 9 (by kernel_rfl) (by kernel_rfl) (by kernel_rfl) ?_
            simp -dsimp -implicitDefEqProofs (disch := omega) [go_sem, -List.getD_eq_getElem?_getD, ite_yes, si, ht, htp, lf]
            refine ACall.via (nodeOf_R ((h.step (by omega)).app _) (by omega) N hN tp ps.length cp (by simp; omega)) ?_
            rintro _ _ ⟨nd, a8, s8, rfl, q8, q8', rfl⟩
            simp -dsimp -implicitDefEqProofs (disch := omega) [go_sem, -List.getD_eq_getElem?_getD, ite_yes, si, ht, htp, lf]
            first | refine AAt.of (SubH.nil) ?_ | (refine ⟨?_, AAt.of (SubH.nil) ?_⟩; · omega)
            refine AAny.one 3 10 (by kernel_rfl) (by kernel_rfl) (by kernel_rfl) ?_
            simp -dsimp -implicitDefEqProofs (disch := omega) [go_sem, -List.getD_eq_getElem?_getD, ite_yes, si, ht, htp, lf]
            first | refine AAt.of (SubH.nil) ?_ | (refine ⟨?_, AAt.of (SubH.nil) ?_⟩; · omega)
            refine AAny.one 2 11 (by kernel_rfl) (by kernel_rfl) (by kernel_rfl) ?_
            simp -dsimp -implicitDefEqProofs (disch := omega) [go_sem, -List.getD_eq_getElem?_getD, ite_yes, si, ht, htp, lf]
            first | refine AAt.of (SubH.nil) ?_ | (refine ⟨?_, AAt.of (SubH.nil) ?_⟩; · omega)
            refine AAny.one 1 12 (by kernel_rfl) (by kernel_rfl) (by kernel_rfl) ?_
            simp -dsimp -implicitDefEqProofs (disch := omega) [go_sem, -List.getD_eq_getElem?_getD, ite_yes, si, ht, htp, lf]
            first | refine AAt.of (SubH.nil) ?_ | (refine ⟨?_, AAt.of (SubH.nil) ?_⟩; · omega)
            refine AAny.takes (fuel := 0) (by kernel_rfl) (by kernel_rfl) [13] (by kernel_rfl) (by kernel_rfl) ?_
            simp -dsimp -implicitDefEqProofs (disch := omega) [go_sem, -List.getD_eq_getElem?_getD, ite_yes, si, ht, htp, lf]
            refine AAny.done (by kernel_rfl) ?_
            simp -dsimp -implicitDefEqProofs (disch := omega) [go_sem, -List.getD_eq_getElem?_getD, ite_yes, si, ht, htp, lf]
            refine EndR.of (.slice (some ⟨H.length, 0, none⟩) (l ++ [(y, px, nd, false)]).length (l ++ [(y, px, nd, false)]).length) (H.set t (curB tc n cc a8 s8) ++ [some ⟨((l ++ [(y, px, nd, false)])).flatMap vlE, true, 71, 4⟩]) ⟨(l ++ [(y, px, nd, false)]), a8, s8, rfl, by first | omega | (simp; omega), by omega, by omega, rfl⟩ (fin_sets [some 4] rfl ht (h.wms _ _ _ _) ?_ (by simp -dsimp -implicitDefEqProofs (disch := omega) [go_sem, -List.getD_eq_getElem?_getD, ite_yes, ht, htp]))
            simp -dsimp -implicitDefEqProofs (disch := omega) [go_sem, -List.getD_eq_getElem?_getD, ite_yes]
            exact .inl ⟨by simp [vlE], by simp [vlE, flat]⟩
        · simp -dsimp -implicitDefEqProofs (disch := omega) [go_sem, -List.getD_eq_getElem?_getD, ite_yes, si, ht, htp, lf]
          first | refine AAt.of (SubH.nil) ?_ | (refine ⟨?_, AAt.of (SubH.nil) ?_⟩; · omega)
          refine AAny.one 7 2 (by kernel_rfl) (by kernel_rfl) (by kernel_rfl) ?_
          simp -dsimp -implicitDefEqProofs (disch := omega) [go_sem, -List.getD_eq_getElem?_getD, ite_yes, si, ht, htp, lf]
          first | refine AAt.of (SubH.nil) ?_ | (refine ⟨?_, AAt.of (SubH.nil) ?_⟩; · omega)
          refine AAny.one 6 3 (by kernel_rfl) (by kernel_rfl) (by kernel_rfl) ?_
          simp -dsimp -implicitDefEqProofs (disch := omega) [go_sem, -List.getD_eq_getElem?_getD, ite_yes, si, ht, htp, lf]
          refine ACall.via (among_R ((h.step (by omega)).app _) (by omega) [99, 100, 1] (by simp) (by simp) _ _ (by omega) (Sl.nthS 2 rfl rfl)) ?_
          rintro _ _ ⟨y, rfl, ym, a6, s6, q6, q6', rfl⟩
          simp -dsimp -implicitDefEqProofs (disch := omega) [go_sem, -List.getD_eq_getElem?_getD, ite_yes, si, ht, htp, lf]
          first | refine AAt.of (SubH.nil) ?_ | (refine ⟨?_, AAt.of (SubH.nil) ?_⟩; · omega)
          refine AAny.one 5 6 (by kernel_rfl) (by kernel_rfl) (by kernel_rfl) ?_
          simp -dsimp -implicitDefEqProofs (disch := omega) [go_sem, -List.getD_eq_getElem?_getD, ite_yes, si, ht, htp, lf]
          refine ACall.via (pipeOf_R ((h.step (by omega)).app _) (by omega) N ps hp tp cp (Sl.setO hP hne _).app hne) ?_
          rintro _ _ ⟨px, a7, s7, rfl, q7, q7', rfl⟩
          simp -dsimp -implicitDefEqProofs (disch := omega) [go_sem, -List.getD_eq_getElem?_getD, ite_yes, si, ht, htp, lf]
          first | refine AAt.of (SubH.nil) ?_ | (refine ⟨?_, AAt.of (SubH.nil) ?_⟩; · omega)
          refine AAny.one 4 9 (by kernel_rfl) (by kernel_rfl) (by kernel_rfl) ?_
          simp -dsimp -implicitDefEqProofs (disch := omega) [go_sem, -List.getD_eq_getElem?_getD, ite_yes, si, ht, htp, lf]
          refine ACall.via (nodeOf_R ((h.step (by omega)).app _) (by omega) N hN tp ps.length cp (by simp; omega)) ?_
          rintro _ _ ⟨nd, a8, s8, rfl, q8, q8', rfl⟩
          simp -dsimp -implicitDefEqProofs (disch := omega) [go_sem, -List.getD_eq_getElem?_getD, ite_yes, si, ht, htp, lf]
          first | refine AAt.of (SubH.nil) ?_ | (refine ⟨?_, AAt.of (SubH.nil) ?_⟩; · omega)
          refine AAny.one 3 10 (by kernel_rfl) (by kernel_rfl) (by kernel_rfl) ?_
          simp -dsimp -implicitDefEqProofs (disch := omega) [go_sem, -List.getD_eq_getElem?_getD, ite_yes, si, ht, htp, lf]
          first | refine AAt.of (SubH.nil) ?_ | (refine ⟨?_, AAt.of (SubH.nil) ?_⟩; · omega)
          refine AAny.one 2 11 (by kernel_rfl) (by kernel_rfl) (by kernel_rfl) ?_
          simp -dsimp -implicitDefEqProofs (disch := omega) [go_sem, -List.getD_eq_getElem?_getD, ite_yes, si, ht, htp, lf]
          first | refine AAt.of (SubH.nil) ?_ | (refine ⟨?_, AAt.of (SubH.nil) ?_⟩; · omega)
          refine AAny.one 1 12 (by kernel_rfl) (by kernel_rfl) (by kernel_rfl) ?_
          simp -dsimp -implicitDefEqProofs (disch := omega) [go_sem, -List.getD_eq_getElem?_getD, ite_yes, si, ht, htp, lf]
          first | refine AAt.of (SubH.nil) ?_ | (refine ⟨?_, AAt.of (SubH.nil) ?_⟩; · omega)
          refine AAny.takes (fuel := 0) (by kernel_rfl) (by kernel_rfl) [13] (by kernel_rfl) (by kernel_rfl) ?_
          simp -dsimp -implicitDefEqProofs (disch := omega) [go_sem, -List.getD_eq_getElem?_getD, ite_yes, si, ht, htp, lf]
          refine AAny.done (by kernel_rfl) ?_
          simp -dsimp -implicitDefEqProofs (disch := omega) [go_sem, -List.getD_eq_getElem?_getD, ite_yes, si, ht, htp, lf]
          refine EndR.of (.slice (some ⟨H.length, 0, none⟩) (l ++ [(y, px, nd, false)]).length (l ++ [(y, px, nd, false)]).length) (H.set t (curB tc n cc a8 s8) ++ [some ⟨((l ++ [(y, px, nd, false)])).flatMap vlE, true, 71, 4⟩]) ⟨(l ++ [(y, px, nd, false)]), a8, s8, rfl, by first | omega | (simp; omega), by omega, by omega, rfl⟩ (fin_sets [some 4] rfl ht (h.wms _ _ _ _) ?_ (by simp -dsimp -implicitDefEqProofs (disch := omega) [go_sem, -List.getD_eq_getElem?_getD, ite_yes, ht, htp]))
          simp -dsimp -implicitDefEqProofs (disch := omega) [go_sem, -List.getD_eq_getElem?_getD, ite_yes]
          exact .inl ⟨by simp [vlE], by simp [vlE, flat]⟩
      · simp -dsimp -implicitDefEqProofs (disch := omega) [go_sem, -List.getD_eq_getElem?_getD, ite_yes, si, ht, htp, lf]
        first | refine AAt.of (SubH.nil) ?_ | (refine ⟨?_, AAt.of (SubH.nil) ?_⟩; · omega)
        refine AAny.two 8 2 5 (by kernel_rfl) (by kernel_rfl) (by kernel_rfl) ?_ ?_
        · simp -dsimp -implicitDefEqProofs (disch := omega) [go_sem, -List.getD_eq_getElem?_getD, ite_yes, si, ht, htp, lf]
          first | refine AAt.of (SubH.nil) ?_ | (refine ⟨?_, AAt.of (SubH.nil) ?_⟩; · omega)
          refine AAny.two 7 3 5 (by kernel_rfl) (by kernel_rfl) (by kernel_rfl) ?_ ?_
          · simp -dsimp -implicitDefEqProofs (disch := omega) [go_sem, -List.getD_eq_getElem?_getD, ite_yes, si, ht, htp, lf]
            refine ACall.via (among_R ((h.step (by omega)).app _) (by omega) [99, 100, 1] (by simp) (by simp) _ _ (by omega) (Sl.nthS 2 rfl rfl)) ?_
            rintro _ _ ⟨y, rfl, ym, a6, s6, q6, q6', rfl⟩
            simp -dsimp -implicitDefEqProofs (disch := omega) [go_sem, -List.getD_eq_getElem?_getD, ite_yes, si, ht, htp, lf]
            first | refine AAt.of (SubH.nil) ?_ | (refine ⟨?_, AAt.of (SubH.nil) ?_⟩; · omega)
            refine AAny.one 6 5 (by kernel_rfl) (by kernel_rfl) (by kernel_rfl) ?_
            simp -dsimp -implicitDefEqProofs (disch := omega) [go_sem, -List.getD_eq_getElem?_getD, ite_yes, si, ht, htp, lf]
            first | refine AAt.of (SubH.nil) ?_ | (refine ⟨?_, AAt.of (SubH.nil) ?_⟩; · omega)
            refine AAny.one 5 6 (by kernel_rfl) (by kernel_rfl) (by kernel_rfl) ?_
            simp -dsimp -implicitDefEqProofs (disch := omega) [go_sem, -List.getD_eq_getElem?_getD, ite_yes, si, ht, htp, lf]
            refine ACall.via (pipeOf_R ((h.step (by omega)).app _) (by omega) N ps hp tp cp (Sl.setO hP hne _).app hne) ?_
            rintro _ _ ⟨px, a7, s7, rfl, q7, q7', rfl⟩
            simp -dsimp -implicitDefEqProofs (disch := omega) [go_sem, -List.getD_eq_getElem?_getD, ite_yes, si, ht, htp, lf]
            first | refine AAt.of (SubH.nil) ?_ | (refine ⟨?_, AAt.of (SubH.nil) ?_⟩; · omega)
            refine AAny.one 4 9 (by kernel_rfl) (by kernel_rfl) (by kernel_rfl) ?_
            simp -dsimp -implicitDefEqProofs (disch := omega) [go_sem, -List.getD_eq_getElem?_getD, ite_yes, si, ht, htp, lf]
            refine ACall.via (nodeOf_R ((h.step (by omega)).app _) (by omega) N hN tp ps.length cp (by simp; omega)) ?_
            rintro _ _ ⟨nd, a8, s8, rfl, q8, q8', rfl⟩
            simp -dsimp -implicitDefEqProofs (disch := omega) [go_sem, -List.getD_eq_getElem?_getD, ite_yes, si, ht, htp, lf]
            first | refine AAt.of (SubH.nil) ?_ | (refine ⟨?_, AAt.of (SubH.nil) ?_⟩; · omega)
            refine AAny.one 3 10 (by kernel_rfl) (by kernel_rfl) (by kernel_rfl) ?_
            simp -dsimp -implicitDefEqProofs (disch := omega) [go_sem, -List.getD_eq_getElem?_getD, ite_yes, si, ht, htp, lf]
            first | refine AAt.of (SubH.nil) ?_ | (refine ⟨?_, AAt.of (SubH.nil) ?_⟩; · omega)
            refine AAny.one 2 11 (by kernel_rfl) (by kernel_rfl) (by kernel_rfl) ?_
            simp -dsimp -implicitDefEqProofs (disch := omega) [go_sem, -List.getD_eq_getElem?_getD, ite_yes, si, ht, htp, lf]
            first | refine AAt.of (SubH.nil) ?_ | (refine ⟨?_, AAt.of (SubH.nil) ?_⟩; · omega)
            refine AAny.one 1 12 (by kernel_rfl) (by kernel_rfl) (by kernel_rfl) ?_
            simp -dsimp -implicitDefEqProofs (disch := omega) [go_sem, -List.getD_eq_getElem?_getD, ite_yes, si, ht, htp, lf]
            first | refine AAt.of (SubH.nil) ?_ | (refine ⟨?_, AAt.of (SubH.nil) ?_⟩; · omega)
            refine AAny.takes (fuel := 0) (by kernel_rfl) (by kernel_rfl) [13] (by kernel_rfl) (by kernel_rfl) ?_
            simp -dsimp -implicitDefEqProofs (disch := omega) [go_sem, -List.getD_eq_getElem?_getD, ite_yes, si, ht, htp, lf]
            refine AAny.done (by kernel_rfl) ?_
            simp -dsimp -implicitDefEqProofs (disch := omega) [go_sem, -List.getD_eq_getElem?_getD, ite_yes, si, ht, htp, lf]
            refine EndR.of (.slice (some ⟨H.length, 0, none⟩) (l ++ [(y, px, nd, false)]).length (l ++ [(y, px, nd, false)]).length) (H.set t (curB tc n cc a8 s8) ++ [some ⟨((l ++ [(y, px, nd, false)])).flatMap vlE, true, 71, 4⟩]) ⟨(l ++ [(y, px, nd, false)]), a8, s8, rfl, by first | omega | (simp; omega), by omega, by omega, rfl⟩ (fin_sets [some 4] rfl ht (h.wms _ _ _ _) ?_ (by simp -dsimp -implicitDefEqProofs (disch := omega) [go_sem, -List.getD_eq_getElem?_getD, ite_yes, ht, htp]))
            simp -dsimp -implicitDefEqProofs (disch := omega) [go_sem, -List.getD_eq_getElem?_getD, ite_yes]
            exact .inl ⟨by simp [vlE], by simp [vlE, flat]⟩
          · simp -dsimp -implicitDefEqProofs (disch := omega) [go_sem, -List.getD_eq_getElem?_getD, ite_yes, si, ht, htp, lf]
            first | refine AAt.of (SubH.nil) ?_ | (refine ⟨?_, AAt.of (SubH.nil) ?_⟩; · omega)
            refine AAny.one 6 3 (by kernel_rfl) (by kernel_rfl) (by kernel_rfl) ?_
            simp -dsimp -implicitDefEqProofs (disch := omega) [go_sem, -List.getD_eq_getElem?_getD, ite_yes, si, ht, htp, lf]
            refine ACall.via (among_R ((h.step (by omega)).app _) (by omega) [99, 100, 1] (by simp) (by simp) _ _ (by omega) (Sl.nthS 2 rfl rfl)) ?_
            rintro _ _ ⟨y, rfl, ym, a6, s6, q6, q6', rfl⟩
            simp -dsimp -implicitDefEqProofs (disch := omega) [go_sem, -List.getD_eq_getElem?_getD, ite_yes, si, ht, htp, lf]
            first | refine AAt.of (SubH.nil) ?_ | (refine ⟨?_, AAt.of (SubH.nil) ?_⟩; · omega)
            refine AAny.one 5 6 (by kernel_rfl) (by kernel_rfl) (by kernel_rfl) ?_
            simp -dsimp -implicitDefEqProofs (disch := omega) [go_sem, -List.getD_eq_getElem?_getD, ite_yes, si, ht, htp, lf]
            refine ACall.via (pipeOf_R ((h.step (by omega)).app _) (by omega) N ps hp tp cp (Sl.setO hP hne _).app hne) ?_
            rintro _ _ ⟨px, a7, s7, rfl, q7, q7', rfl⟩
            simp -dsimp -implicitDefEqProofs (disch := omega) [go_sem, -List.getD_eq_getElem?_getD, ite_yes, si, ht, htp, lf]
            first | refine AAt.of (SubH.nil) ?_ | (refine ⟨?_, AAt.of (SubH.nil) ?_⟩; · omega)
            refine AAny.one 4 9 (by kernel_rfl) (by kernel_rfl) (by kernel_rfl) ?_
            simp -dsimp -implicitDefEqProofs (disch := omega) [go_sem, -List.getD_eq_getElem?_getD, ite_yes, si, ht, htp, lf]
            refine ACall.via (nodeOf_R ((h.step (by omega)).app _) (by omega) N hN tp ps.length cp (by simp; omega)) ?_
            rintro _ _ ⟨nd, a8, s8, rfl, q8, q8', rfl⟩
            simp -dsimp -implicitDefEqProofs (disch := omega) [go_sem, -List.getD_eq_getElem?_getD, ite_yes, si, ht, htp, lf]
            first | refine AAt.of (SubH.nil) ?_ | (refine ⟨?_, AAt.of (SubH.nil) ?_⟩; · omega)
            refine AAny.one 3 10 (by kernel_rfl) (by kernel_rfl) (by kernel_rfl) ?_
            simp -dsimp -implicitDefEqProofs (disch := omega) [go_sem, -List.getD_eq_getElem?_getD, ite_yes, si, ht, htp, lf]
            first | refine AAt.of (SubH.nil) ?_ | (refine ⟨?_, AAt.of (SubH.nil) ?_⟩; · omega)
            refine AAny.one 2 11 (by kernel_rfl) (by kernel_rfl) (by kernel_rfl) ?_
            simp -dsimp -implicitDefEqProofs (disch := omega) [go_sem, -List.getD_eq_getElem?_getD, ite_yes, si, ht, htp, lf]
            first | refine AAt.of (SubH.nil) ?_ | (refine ⟨?_, AAt.of (SubH.nil) ?_⟩; · omega)
            refine AAny.one 1 12 (by kernel_rfl) (by kernel_rfl) (by kernel_rfl) ?_
            simp -dsimp -implicitDefEqProofs (disch := omega) [go_sem, -List.getD_eq_getElem?_getD, ite_yes, si, ht, htp, lf]
            first | refine AAt.of (SubH.nil) ?_ | (refine ⟨?_, AAt.of (SubH.nil) ?_⟩; · omega)
            refine AAny.takes (fuel := 0) (by kernel_rfl) (by kernel_rfl) [13] (by kernel_rfl) (by kernel_rfl) ?_
            simp -dsimp -implicitDefEqProofs (disch := omega) [go_sem, -List.getD_eq_getElem?_getD, ite_yes, si, ht, htp, lf]
            refine AAny.done (by kernel_rfl) ?_
            simp -dsimp -implicitDefEqProofs (disch := omega) [go_sem, -List.getD_eq_getElem?_getD, ite_yes, si, ht, htp, lf]
            refine EndR.of (.slice (some ⟨H.length, 0, none⟩) (l ++ [(y, px, nd, false)]).length (l ++ [(y, px, nd, false)]).length) (H.set t (curB tc n cc a8 s8) ++ [some ⟨((l ++ [(y, px, nd, false)])).flatMap vlE, true, 71, 4⟩]) ⟨(l ++ [(y, px, nd, false)]), a8, s8, rfl, by first | omega | (simp; omega), by omega, by omega, rfl⟩ (fin_sets [some 4] rfl ht (h.wms _ _ _ _) ?_ (by simp -dsimp -implicitDefEqProofs (disch := omega) [go_sem, -List.getD_eq_getElem?_getD, ite_yes, ht, htp]))
            simp -dsimp -implicitDefEqProofs (disch := omega) [go_sem, -List.getD_eq_getElem?_getD, ite_yes]
            exact .inl ⟨by simp [vlE], by simp [vlE, flat]⟩
        · simp -dsimp -implicitDefEqProofs (disch := omega) [go_sem, -List.getD_eq_getElem?_getD, ite_yes, si, ht, htp, lf]
          first | refine AAt.of (SubH.nil) ?_ | (refine ⟨?_, AAt.of (SubH.nil) ?_⟩; · omega)
          refine AAny.one 7 2 (by kernel_rfl) (by kernel_rfl) (by kernel_rfl) ?_
          simp -dsimp -implicitDefEqProofs (disch := omega) [go_sem, -List.getD_eq_getElem?_getD, ite_yes, si, ht, htp, lf]
          first | refine AAt.of (SubH.nil) ?_ | (refine ⟨?_, AAt.of (SubH.nil) ?_⟩; · omega)
          refine AAny.one 6 3 (by kernel_rfl) (by kernel_rfl) (by kernel_rfl) ?_
          simp -dsimp -implicitDefEqProofs (disch := omega) [go_sem, -List.getD_eq_getElem?_getD, ite_yes, si, ht, htp, lf]
          refine ACall.via (among_R ((h.step (by omega)).app _) (by omega) [99, 100, 1] (by simp) (by simp) _ _ (by omega) (Sl.nthS 2 rfl rfl)) ?_
          rintro _ _ ⟨y, rfl, ym, a6, s6, q6, q6', rfl⟩
          simp -dsimp -implicitDefEqProofs (disch := omega) [go_sem, -List.getD_eq_getElem?_getD, ite_yes, si, ht, htp, lf]
          first | refine AAt.of (SubH.nil) ?_ | (refine ⟨?_, AAt.of (SubH.nil) ?_⟩; · omega)
          refine AAny.one 5 6 (by kernel_rfl) (by kernel_rfl) (by kernel_rfl) ?_
          simp -dsimp -implicitDefEqProofs (disch := omega) [go_sem, -List.getD_eq_getElem?_getD, ite_yes, si, ht, htp, lf]
          refine ACall.via (pipeOf_R ((h.step (by omega)).app _) (by omega) N ps hp tp cp (Sl.setO hP hne _).app hne) ?_
          rintro _ _ ⟨px, a7, s7, rfl, q7, q7', rfl⟩
          simp -dsimp -implicitDefEqProofs (disch := omega) [go_sem, -List.getD_eq_getElem?_getD, ite_yes, si, ht, htp, lf]
          first | refine AAt.of (SubH.nil) ?_ | (refine ⟨?_, AAt.of (SubH.nil) ?_⟩; · omega)
          refine AAny.one 4 9 (by kernel_rfl) (by kernel_rfl) (by kernel_rfl) ?_
          simp -dsimp -implicitDefEqProofs (disch := omega) [go_sem, -List.getD_eq_getElem?_getD, ite_yes, si, ht, htp, lf]
          refine ACall.via (nodeOf_R ((h.step (by omega)).app _) (by omega) N hN tp ps.length cp (by simp; omega)) ?_
          rintro _ _ ⟨nd, a8, s8, rfl, q8, q8', rfl⟩
          simp -dsimp -implicitDefEqProofs (disch := omega) [go_sem, -List.getD_eq_getElem?_getD, ite_yes, si, ht, htp, lf]
          first | refine AAt.of (SubH.nil) ?_ | (refine ⟨?_, AAt.of (SubH.nil) ?_⟩; · omega)
          refine AAny.one 3 10 (by kernel_rfl) (by kernel_rfl) (by kernel_rfl) ?_
          simp -dsimp -implicitDefEqProofs (disch := omega) [go_sem, -List.getD_eq_getElem?_getD, ite_yes, si, ht, htp, lf]
          first | refine AAt.of (SubH.nil) ?_ | (refine ⟨?_, AAt.of (SubH.nil) ?_⟩; · omega)
          refine AAny.one 2 11 (by kernel_rfl) (by kernel_rfl) (by kernel_rfl) ?_
          simp -dsimp -implicitDefEqProofs (disch := omega) [go_sem, -List.getD_eq_getElem?_getD, ite_yes, si, ht, htp, lf]
          first | refine AAt.of (SubH.nil) ?_ | (refine ⟨?_, AAt.of (SubH.nil) ?_⟩; · omega)
          refine AAny.one 1 12 (by kernel_rfl) (by kernel_rfl) (by kernel_rfl) ?_
          simp -dsimp -implicitDefEqProofs (disch := omega) [go_sem, -List.getD_eq_getElem?_getD, ite_yes, si, ht, htp, lf]
          first | refine AAt.of (SubH.nil) ?_ | (refine ⟨?_, AAt.of (SubH.nil) ?_⟩; · omega)
          refine AAny.takes (fuel := 0) (by kernel_rfl) (by kernel_rfl) [13] (by kernel_rfl) (by kernel_rfl) ?_
          simp -dsimp -implicitDefEqProofs (disch := omega) [go_sem, -List.getD_eq_getElem?_getD, ite_yes, si, ht, htp, lf]
          refine AAny.done (by kernel_rfl) ?_
          simp -dsimp -implicitDefEqProofs (disch := omega) [go_sem, -List.getD_eq_getElem?_getD, ite_yes, si, ht, htp, lf]
          refine EndR.of (.slice (some ⟨H.length, 0, none⟩) (l ++ [(y, px, nd, false)]).length (l ++ [(y, px, nd, false)]).length) (H.set t (curB tc n cc a8 s8) ++ [some ⟨((l ++ [(y, px, nd, false)])).flatMap vlE, true, 71, 4⟩]) ⟨(l ++ [(y, px, nd, false)]), a8, s8, rfl, by first | omega | (simp; omega), by omega, by omega, rfl⟩ (fin_sets [some 4] rfl ht (h.wms _ _ _ _) ?_ (by simp -dsimp -implicitDefEqProofs (disch := omega) [go_sem, -List.getD_eq_getElem?_getD, ite_yes, ht, htp]))
          simp -dsimp -implicitDefEqProofs (disch := omega) [go_sem, -List.getD_eq_getElem?_getD, ite_yes]
          exact .inl ⟨by simp [vlE], by simp [vlE, flat]⟩
    simp -dsimp -implicitDefEqProofs (disch := omega) [go_sem, -List.getD_eq_getElem?_getD, ite_yes, si]
    refine AIf.of (fun w1 => ?_) (fun w1 => ?_)
    rotate_left
    · simp -dsimp -implicitDefEqProofs (disch := omega) [go_sem, -List.getD_eq_getElem?_getD, ite_yes, si, ht]
      refine EndR.of (.slice (some ⟨H.length, 0, none⟩) l.length l.length) (H.set t (curB tc n cc a4 s4) ++ [some ⟨(l).flatMap vlE, true, 71, 4⟩]) ⟨l, a4, s4, rfl, by first | omega | (simp; omega), by omega, by omega, rfl⟩ (fin_sets [some 1] rfl ht (h.wms _ _ _ _) ?_ (by simp -dsimp -implicitDefEqProofs (disch := omega) [go_sem, -List.getD_eq_getElem?_getD, ite_yes, ht, htp]))
      simp -dsimp -implicitDefEqProofs (disch := omega) [go_sem, -List.getD_eq_getElem?_getD, ite_yes]
      exact .inl ⟨rfl, vlE_flat _⟩
    by_cases hl0 : 0 < l.length
    rotate_left
    · have hl0i : ¬ (0 : Int) < (l.length : Int) := by omega
      simp -dsimp -implicitDefEqProofs (disch := omega) [go_sem, -List.getD_eq_getElem?_getD, ite_yes, si, ht, hl0i, hl0]
      refine EndR.of (.slice (some ⟨H.length, 0, none⟩) l.length l.length) (H.set t (curB tc n cc a4 s4) ++ [some ⟨(l).flatMap vlE, true, 71, 4⟩]) ⟨l, a4, s4, rfl, by first | omega | (simp; omega), by omega, by omega, rfl⟩ (fin_sets [some 1] rfl ht (h.wms _ _ _ _) ?_ (by simp -dsimp -implicitDefEqProofs (disch := omega) [go_sem, -List.getD_eq_getElem?_getD, ite_yes, ht, htp]))
      simp -dsimp -implicitDefEqProofs (disch := omega) [go_sem, -List.getD_eq_getElem?_getD, ite_yes]
      exact .inl ⟨rfl, vlE_flat _⟩
    have hl0i : (0 : Int) < (l.length : Int) := by omega
    have hkc := flatMap_cells vlE 4 (fun _ => rfl) (0, 0, 0, false) l 0 hl0
    have hk4 : 4 ≤ l.length * 4 := by omega
    rw [Nat.zero_mul, List.drop_zero] at hkc
    generalize l.getD 0 (0, 0, 0, false) = x at hkc
    simp only [vlE] at hkc
    simp -dsimp -implicitDefEqProofs (disch := omega) [go_sem, -List.getD_eq_getElem?_getD, ite_yes, si, ht, hl0i, hl0, hkc, lf, hk4]
    refine ⟨by omega, ?_⟩
    refine EndR.of (.slice (some ⟨H.length, 0, none⟩) (l ++ [(98, x.2.1, x.2.2.1, x.2.2.2)]).length (l ++ [(98, x.2.1, x.2.2.1, x.2.2.2)]).length) (H.set t (curB tc n cc a4 s4) ++ [some ⟨((l ++ [(98, x.2.1, x.2.2.1, x.2.2.2)])).flatMap vlE, true, 71, 4⟩]) ⟨(l ++ [(98, x.2.1, x.2.2.1, x.2.2.2)]), a4, s4, rfl, by first | omega | (simp; omega), by omega, by omega, rfl⟩ (fin_sets [some 4] rfl ht (h.wms _ _ _ _) ?_ (by simp -dsimp -implicitDefEqProofs (disch := omega) [go_sem, -List.getD_eq_getElem?_getD, ite_yes, ht, htp]))
    simp -dsimp -implicitDefEqProofs (disch := omega) [go_sem, -List.getD_eq_getElem?_getD, ite_yes]
    exact .inl ⟨by simp [vlE], by simp [vlE, flat]⟩
  have hki : (k : Int) < (ps.length : Int) := by omega
  have e0 := fun x => c0 x k hk
  have e1 := fun x => c1 x k hk
  have e2 := fun x => c2 x k hk
  have f0 := (Sl.setO hP hne none).cell (s := 4) (fun _ => rfl) pp0 k 0 hk (by omega)
  have f1 := (Sl.setO hP hne none).cell (s := 4) (fun _ => rfl) pp0 k 1 hk (by omega)
  have f2 := (Sl.setO hP hne none).cell (s := 4) (fun _ => rfl) pp0 k 2 hk (by omega)
  simp only [ppE, Nat.add_zero] at f0 f1 f2
  clear c0 c1 c2
  generalize ps.getD k pp0 = p at e0 e1 e2 f0 f1 f2
  have htn : tp < (H.set t none).length := by simpa using htp
  simp -dsimp -implicitDefEqProofs (disch := omega) [go_sem, -List.getD_eq_getElem?_getD, ite_yes, hki, htp]
  refine ALoop.intro (ι := VlI) (fun i => i.j ≤ 2 ∧ i.l.length ≤ 10 ∧ at_ ≤ i.a ∧ i.a ≤ at_ + 20 * k + 8 * i.j ∧ 0 ≤ i.d ∧ i.d ≤ 6 * k + 3 * i.j) (fun i => [(0, .pointer (some ⟨t, 0, none⟩)), (3, .pointer (some ⟨H.length, 0, none⟩)), (5, .slice (some ⟨H.length + 1, 0, none⟩) i.l.length i.l.length), (6, .int .i64 i.d), (7, .int .i64 k), (8, .int .i64 i.j)])
    (fun i => H.set t (curB tc n cc i.a i.s) ++ [some ⟨[.int .i64 N, .slice (some ⟨tp, 0, none⟩) ps.length cp], true, 26, 1⟩, some ⟨i.l.flatMap vlE, true, 71, 4⟩]) (fun i => 2 - i.j) ⟨0, 0, l, d, a, s⟩ ⟨by simp only; omega, by simp only; omega, by simp only; omega, by simp only; omega, by simp only; omega, by simp only; omega⟩ ?_ ?_
  · refine weakS_sets [some 0, some 1] rfl ht (h.wms _ _ _ _) ?_ (by simp -dsimp -implicitDefEqProofs (disch := omega) [go_sem, -List.getD_eq_getElem?_getD, ite_yes, ht, htp])
    simp -dsimp -implicitDefEqProofs (disch := omega) [go_sem, -List.getD_eq_getElem?_getD, ite_yes, htp]
    exact ⟨wl_net htp, .inl ⟨rfl, vlE_flat _⟩⟩
  clear i1 i2 i3 i4 i5 i6 lf
  rintro ⟨_, j, l, d, a, s⟩ ⟨i1, i2, i3, i4, i5, i6⟩
  simp only at i1 i2 i3 i4 i5 i6
  have lf := vlE_length l
  by_cases hj : j < 2
  rotate_left
  · obtain rfl : j = 2 := by omega
    simp -dsimp -implicitDefEqProofs (disch := omega) [go_sem, -List.getD_eq_getElem?_getD, ite_yes, htp]
    refine LoopEnd.of ⟨k + 1, 0, l, d, a, s⟩ ⟨by simp only; omega, by simp only; omega, by simp only; omega, by simp only; omega, by simp only; omega, by simp only; omega⟩ (by simp only; omega) (weakS_sets [some 0, some 1] rfl ht (h.wms _ _ _ _) ?_ (by simp -dsimp -implicitDefEqProofs (disch := omega) [go_sem, -List.getD_eq_getElem?_getD, ite_yes, ht, htp]))
    simp -dsimp -implicitDefEqProofs (disch := omega) [go_sem, -List.getD_eq_getElem?_getD, ite_yes, htp]
    exact ⟨wl_net htp, .inl ⟨rfl, vlE_flat _⟩⟩
  have hji : (j : Int) < 2 := by omega
  simp -dsimp -implicitDefEqProofs (disch := omega) [go_sem, -List.getD_eq_getElem?_getD, ite_yes, hji, hj]
  refine ACall.via (one_R ((h.step (by omega)).app _) (by omega) 2 (by omega)) ?_
  rintro _ _ ⟨b, rfl, a4, s4, q4, q4', rfl⟩
  cases b
  rotate_left
  · simp -dsimp -implicitDefEqProofs (disch := omega) [go_sem, -List.getD_eq_getElem?_getD, ite_yes, si]
    refine LoopEnd.of ⟨0, j + 1, l, d, a4, s4⟩ ⟨by simp only; omega, by simp only; omega, by simp only; omega, by simp only; omega, by simp only; omega, by simp only; omega⟩ (by simp only; omega) (weakS_sets [some 0, some 1] rfl ht (h.wms _ _ _ _) ?_ (by simp -dsimp -implicitDefEqProofs (disch := omega) [go_sem, -List.getD_eq_getElem?_getD, ite_yes, ht, htp]))
    simp -dsimp -implicitDefEqProofs (disch := omega) [go_sem, -List.getD_eq_getElem?_getD, ite_yes, htp]
    exact ⟨wl_net htp, .inl ⟨rfl, vlE_flat _⟩⟩
  by_cases hfull : 10 ≤ l.length
  · have hfi : (10 : Int) ≤ (l.length : Int) := by omega
    simp -dsimp -implicitDefEqProofs (disch := omega) [go_sem, -List.getD_eq_getElem?_getD, ite_yes, si, hfi, hfull]
    refine LoopEnd.of ⟨0, j + 1, l, d, a4, s4⟩ ⟨by simp only; omega, by simp only; omega, by simp only; omega, by simp only; omega, by simp only; omega, by simp only; omega⟩ (by simp only; omega) (weakS_sets [some 0, some 1] rfl ht (h.wms _ _ _ _) ?_ (by simp -dsimp -implicitDefEqProofs (disch := omega) [go_sem, -List.getD_eq_getElem?_getD, ite_yes, ht, htp]))
    simp -dsimp -implicitDefEqProofs (disch := omega) [go_sem, -List.getD_eq_getElem?_getD, ite_yes, htp]
    exact ⟨wl_net htp, .inl ⟨rfl, vlE_flat _⟩⟩
  have hfi : ¬ (10 : Int) ≤ (l.length : Int) := by omega
  simp -dsimp -implicitDefEqProofs (disch := omega) [go_sem, -List.getD_eq_getElem?_getD, ite_yes, si, hfi, hfull]
  refine ACall.via (pick_R ((h.step (by omega)).app _) (by omega) 2 (by omega)) ?_
  rintro _ _ ⟨r, rfl, r0, r1, a5, s5, q5, q5', rfl⟩
  obtain ⟨z, hz⟩ : ∃ z, List.take 1 (if j = 0 then [Value.int .i64 p.2.1, .int .i64 p.2.2.1] else [.int .i64 p.2.2.1]) = [.int .i64 z] := by
    have : j = 0 ∨ j = 1 := by omega
    rcases this with rfl | rfl
    · exact ⟨_, rfl⟩
    · exact ⟨_, rfl⟩
  have hj1 : j + 1 ≤ 2 := by omega
  simp -dsimp -implicitDefEqProofs (disch := omega) [go_sem, -List.getD_eq_getElem?_getD, ite_yes, si]
  have F := And.intro si (And.intro ht (And.intro htp (And.intro htn (And.intro hki (And.intro hk (And.intro e0 (And.intro e1 (And.intro e2 (And.intro f0 (And.intro f1 (And.intro f2 (And.intro hz (And.intro hj (And.intro hji (And.intro hj1 lf)))))))))))))))
  refine ADraw.midR (VlR H t tc n cc N tp ps.length cp k j l (d + 1 + r) a5) ?_ ?_
  · skip
    refine ADraw.any (H.set t none) (by kernel_rfl) (SubH.setN) ?_
    refine AAny.takes (fuel := 20) (by kernel_rfl) (by kernel_rfl) [0, 1, 2, 4, 8, 10, 14, 16, 21, 24] (by kernel_rfl) (by kernel_rfl) ?_
    simp -dsimp -implicitDefEqProofs (disch := omega) [go_sem, -List.getD_eq_getElem?_getD, ite_yes, F]
    refine AAny.four 19 3 9 15 25 (by kernel_rfl) (by kernel_rfl) (by kernel_rfl) ?_ ?_ ?_ ?_
    · as_aux_lemma =>
        simp -dsimp -implicitDefEqProofs (disch := omega) [go_sem, -List.getD_eq_getElem?_getD, ite_yes, F]
        refine AAt.of (SubH.setN) ?_
        refine AAny.takes (fuel := 16) (by kernel_rfl) (by kernel_rfl) [5, 6, 7] (by kernel_rfl) (by kernel_rfl) ?_
        simp -dsimp -implicitDefEqProofs (disch := omega) [go_sem, -List.getD_eq_getElem?_getD, ite_yes, F]
        refine AAny.three 15 9 15 25 (by kernel_rfl) (by kernel_rfl) (by kernel_rfl) ?_ ?_ ?_
        · as_aux_lemma =>
            simp -dsimp -implicitDefEqProofs (disch := omega) [go_sem, -List.getD_eq_getElem?_getD, ite_yes, F]
            refine AAt.of (SubH.setN) ?_
            refine AAny.takes (fuel := 12) (by kernel_rfl) (by kernel_rfl) [11, 12, 13] (by kernel_rfl) (by kernel_rfl) ?_
            simp -dsimp -implicitDefEqProofs (disch := omega) [go_sem, -List.getD_eq_getElem?_getD, ite_yes, F]
            refine AAny.two 11 15 25 (by kernel_rfl) (by kernel_rfl) (by kernel_rfl) ?_ ?_
            · as_aux_lemma =>
                simp -dsimp -implicitDefEqProofs (disch := omega) [go_sem, -List.getD_eq_getElem?_getD, ite_yes, F]
                refine AAt.of (SubH.setN) ?_
                refine AAny.takes (fuel := 8) (by kernel_rfl) (by kernel_rfl) [17, 18, 19] (by kernel_rfl) (by kernel_rfl) ?_
                simp -dsimp -implicitDefEqProofs (disch := omega) [go_sem, -List.getD_eq_getElem?_getD, ite_yes, F]
                refine AAny.two 7 20 25 (by kernel_rfl) (by kernel_rfl) (by kernel_rfl) ?_ ?_
                · simp -dsimp -implicitDefEqProofs (disch := omega) [go_sem, -List.getD_eq_getElem?_getD, ite_yes, F]
                  refine AAt.of (SubH.setN) ?_
                  refine AAny.takes (fuel := 6) (by kernel_rfl) (by kernel_rfl) [22] (by kernel_rfl) (by kernel_rfl) ?_
                  simp -dsimp -implicitDefEqProofs (disch := omega) [go_sem, -List.getD_eq_getElem?_getD, ite_yes, F]
                  refine AAny.two 5 23 25 (by kernel_rfl) (by kernel_rfl) (by kernel_rfl) ?_ ?_
                  · simp -dsimp -implicitDefEqProofs (disch := omega) [go_sem, -List.getD_eq_getElem?_getD, ite_yes, F]
                    refine AAt.of (SubH.setN) ?_
                    refine AAny.one1 4 25 ?_
                    simp -dsimp -implicitDefEqProofs (disch := omega) [go_sem, -List.getD_eq_getElem?_getD, ite_yes, F]
                    refine ACall.via (one_R ((h.step (by omega)).app _) (by omega) 3 (by omega)) ?_
                    rintro _ _ ⟨b, rfl, a7, s7, q7, q7', rfl⟩
                    simp -dsimp -implicitDefEqProofs (disch := omega) [go_sem, -List.getD_eq_getElem?_getD, ite_yes, F]
                    refine AAt.of (SubH.setN) ?_
                    refine AAny.one1 3 26 ?_
                    simp -dsimp -implicitDefEqProofs (disch := omega) [go_sem, -List.getD_eq_getElem?_getD, ite_yes, F]
                    refine AAt.of (SubH.setN) ?_
                    refine AAny.one1 2 27 ?_
                    simp -dsimp -implicitDefEqProofs (disch := omega) [go_sem, -List.getD_eq_getElem?_getD, ite_yes, F]
                    refine AAt.of (SubH.setN) ?_
                    refine AAny.one1 1 28 ?_
                    simp -dsimp -implicitDefEqProofs (disch := omega) [go_sem, -List.getD_eq_getElem?_getD, ite_yes, F]
                    first | refine AAt.of (SubH.setN) ?_ | (refine ⟨?_, AAt.of (SubH.setN) ?_⟩; · omega)
                    refine AAny.takes (fuel := 0) (by kernel_rfl) (by kernel_rfl) [29] (by kernel_rfl) (by kernel_rfl) ?_
                    simp -dsimp -implicitDefEqProofs (disch := omega) [go_sem, -List.getD_eq_getElem?_getD, ite_yes, F]
                    refine AAny.done (by kernel_rfl) ?_
                    simp -dsimp -implicitDefEqProofs (disch := omega) [go_sem, -List.getD_eq_getElem?_getD, ite_yes, F]
                    refine ⟨_, _, ⟨(d + 1 + r, p.1, z, b), a7, s7, rfl, by omega, by omega, rfl⟩, weakS_sets [some 0, some 4] rfl ht (h.wms _ _ _ _) ?_ (by simp -dsimp -implicitDefEqProofs (disch := omega) [go_sem, -List.getD_eq_getElem?_getD, ite_yes, ht, htp])⟩
                    simp -dsimp -implicitDefEqProofs (disch := omega) [go_sem, -List.getD_eq_getElem?_getD, ite_yes, htp]
                    exact ⟨wl_net htp, .inl ⟨by simp [vlE], by simp [vlE, flat]⟩⟩
                  · simp -dsimp -implicitDefEqProofs (disch := omega) [go_sem, -List.getD_eq_getElem?_getD, ite_yes, F]
                    refine ACall.via (one_R ((h.step (by omega)).app _) (by omega) 3 (by omega)) ?_
                    rintro _ _ ⟨b, rfl, a7, s7, q7, q7', rfl⟩
                    simp -dsimp -implicitDefEqProofs (disch := omega) [go_sem, -List.getD_eq_getElem?_getD, ite_yes, F]
                    refine AAt.of (SubH.setN) ?_
                    refine AAny.one1 4 23 ?_
                    simp -dsimp -implicitDefEqProofs (disch := omega) [go_sem, -List.getD_eq_getElem?_getD, ite_yes, F]
                    refine AAt.of (SubH.setN) ?_
                    refine AAny.one1 3 26 ?_
                    simp -dsimp -implicitDefEqProofs (disch := omega) [go_sem, -List.getD_eq_getElem?_getD, ite_yes, F]
                    refine AAt.of (SubH.setN) ?_
                    refine AAny.one1 2 27 ?_
                    simp -dsimp -implicitDefEqProofs (disch := omega) [go_sem, -List.getD_eq_getElem?_getD, ite_yes, F]
                    refine AAt.of (SubH.setN) ?_
                    refine AAny.one1 1 28 ?_
                    simp -dsimp -implicitDefEqProofs (disch := omega) [go_sem, -List.getD_eq_getElem?_getD, ite_yes, F]
                    first | refine AAt.of (SubH.setN) ?_ | (refine ⟨?_, AAt.of (SubH.setN) ?_⟩; · omega)
                    refine AAny.takes (fuel := 0) (by kernel_rfl) (by kernel_rfl) [29] (by kernel_rfl) (by kernel_rfl) ?_
                    simp -dsimp -implicitDefEqProofs (disch := omega) [go_sem, -List.getD_eq_getElem?_getD, ite_yes, F]
                    refine AAny.done (by kernel_rfl) ?_
                    simp -dsimp -implicitDefEqProofs (disch := omega) [go_sem, -List.getD_eq_getElem?_getD, ite_yes, F]
                    refine ⟨_, _, ⟨(d + 1 + r, p.1, z, b), a7, s7, rfl, by omega, by omega, rfl⟩, weakS_sets [some 0, some 4] rfl ht (h.wms _ _ _ _) ?_ (by simp -dsimp -implicitDefEqProofs (disch := omega) [go_sem, -List.getD_eq_getElem?_getD, ite_yes, ht, htp])⟩
                    simp -dsimp -implicitDefEqProofs (disch := omega) [go_sem, -List.getD_eq_getElem?_getD, ite_yes, htp]
                    exact ⟨wl_net htp, .inl ⟨by simp [vlE], by simp [vlE, flat]⟩⟩
                · simp -dsimp -implicitDefEqProofs (disch := omega) [go_sem, -List.getD_eq_getElem?_getD, ite_yes, F]
                  refine ACall.via (one_R ((h.step (by omega)).app _) (by omega) 3 (by omega)) ?_
                  rintro _ _ ⟨b, rfl, a7, s7, q7, q7', rfl⟩
                  simp -dsimp -implicitDefEqProofs (disch := omega) [go_sem, -List.getD_eq_getElem?_getD, ite_yes, F]
                  refine AAt.of (SubH.setN) ?_
                  refine AAny.one1 6 20 ?_
                  simp -dsimp -implicitDefEqProofs (disch := omega) [go_sem, -List.getD_eq_getElem?_getD, ite_yes, F]
                  refine AAt.of (SubH.setN) ?_
                  refine AAny.takes (fuel := 5) (by kernel_rfl) (by kernel_rfl) [22] (by kernel_rfl) (by kernel_rfl) ?_
                  simp -dsimp -implicitDefEqProofs (disch := omega) [go_sem, -List.getD_eq_getElem?_getD, ite_yes, F]
                  refine AAny.one1 4 23 ?_
                  simp -dsimp -implicitDefEqProofs (disch := omega) [go_sem, -List.getD_eq_getElem?_getD, ite_yes, F]
                  refine AAt.of (SubH.setN) ?_
                  refine AAny.one1 3 26 ?_
                  simp -dsimp -implicitDefEqProofs (disch := omega) [go_sem, -List.getD_eq_getElem?_getD, ite_yes, F]
                  refine AAt.of (SubH.setN) ?_
                  refine AAny.one1 2 27 ?_
                  simp -dsimp -implicitDefEqProofs (disch := omega) [go_sem, -List.getD_eq_getElem?_getD, ite_yes, F]
                  refine AAt.of (SubH.setN) ?_
                  refine AAny.one1 1 28 ?_
                  simp -dsimp -implicitDefEqProofs (disch := omega) [go_sem, -List.getD_eq_getElem?_getD, ite_yes, F]
                  first | refine AAt.of (SubH.setN) ?_ | (refine ⟨?_, AAt.of (SubH.setN) ?_⟩; · omega)
                  refine AAny.takes (fuel := 0) (by kernel_rfl) (by kernel_rfl) [29] (by kernel_rfl) (by kernel_rfl) ?_
                  simp -dsimp -implicitDefEqProofs (disch := omega) [go_sem, -List.getD_eq_getElem?_getD, ite_yes, F]
                  refine AAny.done (by kernel_rfl) ?_
                  simp -dsimp -implicitDefEqProofs (disch := omega) [go_sem, -List.getD_eq_getElem?_getD, ite_yes, F]
                  refine ⟨_, _, ⟨(d + 1 + r, p.1, z, b), a7, s7, rfl, by omega, by omega, rfl⟩, weakS_sets [some 0, some 4] rfl ht (h.wms _ _ _ _) ?_ (by simp -dsimp -implicitDefEqProofs (disch := omega) [go_sem, -List.getD_eq_getElem?_getD, ite_yes, ht, htp])⟩
                  simp -dsimp -implicitDefEqProofs (disch := omega) [go_sem, -List.getD_eq_getElem?_getD, ite_yes, htp]
                  exact ⟨wl_net htp, .inl ⟨by simp [vlE], by simp [vlE, flat]⟩⟩
            · as_aux_lemma =>
                simp -dsimp -implicitDefEqProofs (disch := omega) [go_sem, -List.getD_eq_getElem?_getD, ite_yes, F]
                refine ACall.via (one_R ((h.step (by omega)).app _) (by omega) 3 (by omega)) ?_
                rintro _ _ ⟨b, rfl, a7, s7, q7, q7', rfl⟩
                simp -dsimp -implicitDefEqProofs (disch := omega) [go_sem, -List.getD_eq_getElem?_getD, ite_yes, F]
                refine AAt.of (SubH.setN) ?_
                refine AAny.one1 10 15 ?_
                simp -dsimp -implicitDefEqProofs (disch := omega) [go_sem, -List.getD_eq_getElem?_getD, ite_yes, F]
                refine AAt.of (SubH.setN) ?_
                refine AAny.takes (fuel := 7) (by kernel_rfl) (by kernel_rfl) [17, 18, 19] (by kernel_rfl) (by kernel_rfl) ?_
                simp -dsimp -implicitDefEqProofs (disch := omega) [go_sem, -List.getD_eq_getElem?_getD, ite_yes, F]
                refine AAny.one1 6 20 ?_
                simp -dsimp -implicitDefEqProofs (disch := omega) [go_sem, -List.getD_eq_getElem?_getD, ite_yes, F]
                refine AAt.of (SubH.setN) ?_
                refine AAny.takes (fuel := 5) (by kernel_rfl) (by kernel_rfl) [22] (by kernel_rfl) (by kernel_rfl) ?_
                simp -dsimp -implicitDefEqProofs (disch := omega) [go_sem, -List.getD_eq_getElem?_getD, ite_yes, F]
                refine AAny.one1 4 23 ?_
                simp -dsimp -implicitDefEqProofs (disch := omega) [go_sem, -List.getD_eq_getElem?_getD, ite_yes, F]
                refine AAt.of (SubH.setN) ?_
                refine AAny.one1 3 26 ?_
                simp -dsimp -implicitDefEqProofs (disch := omega) [go_sem, -List.getD_eq_getElem?_getD, ite_yes, F]
                refine AAt.of (SubH.setN) ?_
                refine AAny.one1 2 27 ?_
                simp -dsimp -implicitDefEqProofs (disch := omega) [go_sem, -List.getD_eq_getElem?_getD, ite_yes, F]
                refine AAt.of (SubH.setN) ?_
                refine AAny.one1 1 28 ?_
                simp -dsimp -implicitDefEqProofs (disch := omega) [go_sem, -List.getD_eq_getElem?_getD, ite_yes, F]
                first | refine AAt.of (SubH.setN) ?_ | (refine ⟨?_, AAt.of (SubH.setN) ?_⟩; · omega)
                refine AAny.takes (fuel := 0) (by kernel_rfl) (by kernel_rfl) [29] (by kernel_rfl) (by kernel_rfl) ?_
                simp -dsimp -implicitDefEqProofs (disch := omega) [go_sem, -List.getD_eq_getElem?_getD, ite_yes, F]
                refine AAny.done (by kernel_rfl) ?_
                simp -dsimp -implicitDefEqProofs (disch := omega) [go_sem, -List.getD_eq_getElem?_getD, ite_yes, F]
                refine ⟨_, _, ⟨(d + 1 + r, p.1, z, b), a7, s7, rfl, by omega, by omega, rfl⟩, weakS_sets [some 0, some 4] rfl ht (h.wms _ _ _ _) ?_ (by simp -dsimp -implicitDefEqProofs (disch := omega) [go_sem, -List.getD_eq_getElem?_getD, ite_yes, ht, htp])⟩
                simp -dsimp -implicitDefEqProofs (disch := omega) [go_sem, -List.getD_eq_getElem?_getD, ite_yes, htp]
                exact ⟨wl_net htp, .inl ⟨by simp [vlE], by simp [vlE, flat]⟩⟩
        · as_aux_lemma =>
            simp -dsimp -implicitDefEqProofs (disch := omega) [go_sem, -List.getD_eq_getElem?_getD, ite_yes, F]
            refine AAt.of (SubH.setN) ?_
            refine AAny.takes (fuel := 12) (by kernel_rfl) (by kernel_rfl) [17, 18, 19] (by kernel_rfl) (by kernel_rfl) ?_
            simp -dsimp -implicitDefEqProofs (disch := omega) [go_sem, -List.getD_eq_getElem?_getD, ite_yes, F]
            refine AAny.two 11 9 25 (by kernel_rfl) (by kernel_rfl) (by kernel_rfl) ?_ ?_
            · as_aux_lemma =>
                simp -dsimp -implicitDefEqProofs (disch := omega) [go_sem, -List.getD_eq_getElem?_getD, ite_yes, F]
                refine AAt.of (SubH.setN) ?_
                refine AAny.takes (fuel := 8) (by kernel_rfl) (by kernel_rfl) [11, 12, 13] (by kernel_rfl) (by kernel_rfl) ?_
                simp -dsimp -implicitDefEqProofs (disch := omega) [go_sem, -List.getD_eq_getElem?_getD, ite_yes, F]
                refine AAny.two 7 20 25 (by kernel_rfl) (by kernel_rfl) (by kernel_rfl) ?_ ?_
                · simp -dsimp -implicitDefEqProofs (disch := omega) [go_sem, -List.getD_eq_getElem?_getD, ite_yes, F]
                  refine AAt.of (SubH.setN) ?_
                  refine AAny.takes (fuel := 6) (by kernel_rfl) (by kernel_rfl) [22] (by kernel_rfl) (by kernel_rfl) ?_
                  simp -dsimp -implicitDefEqProofs (disch := omega) [go_sem, -List.getD_eq_getElem?_getD, ite_yes, F]
                  refine AAny.two 5 23 25 (by kernel_rfl) (by kernel_rfl) (by kernel_rfl) ?_ ?_
                  · simp -dsimp -implicitDefEqProofs (disch := omega) [go_sem, -List.getD_eq_getElem?_getD, ite_yes, F]
                    refine AAt.of (SubH.setN) ?_
                    refine AAny.one1 4 25 ?_
                    simp -dsimp -implicitDefEqProofs (disch := omega) [go_sem, -List.getD_eq_getElem?_getD, ite_yes, F]
                    refine ACall.via (one_R ((h.step (by omega)).app _) (by omega) 3 (by omega)) ?_
                    rintro _ _ ⟨b, rfl, a7, s7, q7, q7', rfl⟩
                    simp -dsimp -implicitDefEqProofs (disch := omega) [go_sem, -List.getD_eq_getElem?_getD, ite_yes, F]
                    refine AAt.of (SubH.setN) ?_
                    refine AAny.one1 3 26 ?_
                    simp -dsimp -implicitDefEqProofs (disch := omega) [go_sem, -List.getD_eq_getElem?_getD, ite_yes, F]
                    refine AAt.of (SubH.setN) ?_
                    refine AAny.one1 2 27 ?_
                    simp -dsimp -implicitDefEqProofs (disch := omega) [go_sem, -List.getD_eq_getElem?_getD, ite_yes, F]
                    refine AAt.of (SubH.setN) ?_
                    refine AAny.one1 1 28 ?_
                    simp -dsimp -implicitDefEqProofs (disch := omega) [go_sem, -List.getD_eq_getElem?_getD, ite_yes, F]
                    first | refine AAt.of (SubH.setN) ?_ | (refine ⟨?_, AAt.of (SubH.setN) ?_⟩; · omega)
                    refine AAny.takes (fuel := 0) (by kernel_rfl) (by kernel_rfl) [29] (by kernel_rfl) (by kernel_rfl) ?_
                    simp -dsimp -implicitDefEqProofs (disch := omega) [go_sem, -List.getD_eq_getElem?_getD, ite_yes, F]
                    refine AAny.done (by kernel_rfl) ?_
                    simp -dsimp -implicitDefEqProofs (disch := omega) [go_sem, -List.getD_eq_getElem?_getD, ite_yes, F]
                    refine ⟨_, _, ⟨(d + 1 + r, p.1, z, b), a7, s7, rfl, by omega, by omega, rfl⟩, weakS_sets [some 0, some 4] rfl ht (h.wms _ _ _ _) ?_ (by simp -dsimp -implicitDefEqProofs (disch := omega) [go_sem, -List.getD_eq_getElem?_getD, ite_yes, ht, htp])⟩
                    simp -dsimp -implicitDefEqProofs (disch := omega) [go_sem, -List.getD_eq_getElem?_getD, ite_yes, htp]
                    exact ⟨wl_net htp, .inl ⟨by simp [vlE], by simp [vlE, flat]⟩⟩
                  · simp -dsimp -implicitDefEqProofs (disch := omega) [go_sem, -List.getD_eq_getElem?_getD, ite_yes, F]
                    refine ACall.via (one_R ((h.step (by omega)).app _) (by omega) 3 (by omega)) ?_
                    rintro _ _ ⟨b, rfl, a7, s7, q7, q7', rfl⟩
                    simp -dsimp -implicitDefEqProofs (disch := omega) [go_sem, -List.getD_eq_getElem?_getD, ite_yes, F]
                    refine AAt.of (SubH.setN) ?_
                    refine AAny.one1 4 23 ?_
                    simp -dsimp -implicitDefEqProofs (disch := omega) [go_sem, -List.getD_eq_getElem?_getD, ite_yes, F]
                    refine AAt.of (SubH.setN) ?_
                    refine AAny.one1 3 26 ?_
                    simp -dsimp -implicitDefEqProofs (disch := omega) [go_sem, -List.getD_eq_getElem?_getD, ite_yes, F]
                    refine AAt.of (SubH.setN) ?_
                    refine AAny.one1 2 27 ?_
                    simp -dsimp -implicitDefEqProofs (disch := omega) [go_sem, -List.getD_eq_getElem?_getD, ite_yes, F]
                    refine AAt.of (SubH.setN) ?_
                    refine AAny.one1 1 28 ?_
                    simp -dsimp -implicitDefEqProofs (disch := omega) [go_sem, -List.getD_eq_getElem?_getD, ite_yes, F]
                    first | refine AAt.of (SubH.setN) ?_ | (refine ⟨?_, AAt.of (SubH.setN) ?_⟩; · omega)
                    refine AAny.takes (fuel := 0) (by kernel_rfl) (by kernel_rfl) [29] (by kernel_rfl) (by kernel_rfl) ?_
                    simp -dsimp -implicitDefEqProofs (disch := omega) [go_sem, -List.getD_eq_getElem?_getD, ite_yes, F]
                    refine AAny.done (by kernel_rfl) ?_
                    simp -dsimp -implicitDefEqProofs (disch := omega) [go_sem, -List.getD_eq_getElem?_getD, ite_yes, F]
                    refine ⟨_, _, ⟨(d + 1 + r, p.1, z, b), a7, s7, rfl, by omega, by omega, rfl⟩, weakS_sets [some 0, some 4] rfl ht (h.wms _ _ _ _) ?_ (by simp -dsimp -implicitDefEqProofs (disch := omega) [go_sem, -List.getD_eq_getElem?_getD, ite_yes, ht, htp])⟩
                    simp -dsimp -implicitDefEqProofs (disch := omega) [go_sem, -List.getD_eq_getElem?_getD, ite_yes, htp]
                    exact ⟨wl_net htp, .inl ⟨by simp [vlE], by simp [vlE, flat]⟩⟩
                · simp -dsimp -implicitDefEqProofs (disch := omega) [go_sem, -List.getD_eq_getElem?_getD, ite_yes, F]
                  refine ACall.via (one_R ((h.step (by omega)).app _) (by omega) 3 (by omega)) ?_
                  rintro _ _ ⟨b, rfl, a7, s7, q7, q7', rfl⟩
                  simp -dsimp -implicitDefEqProofs (disch := omega) [go_sem, -List.getD_eq_getElem?_getD, ite_yes, F]
                  refine AAt.of (SubH.setN) ?_
                  refine AAny.one1 6 20 ?_
                  simp -dsimp -implicitDefEqProofs (disch := omega) [go_sem, -List.getD_eq_getElem?_getD, ite_yes, F]
                  refine AAt.of (SubH.setN) ?_
                  refine AAny.takes (fuel := 5) (by kernel_rfl) (by kernel_rfl) [22] (by kernel_rfl) (by kernel_rfl) ?_
                  simp -dsimp -implicitDefEqProofs (disch := omega) [go_sem, -List.getD_eq_getElem?_getD, ite_yes, F]
                  refine AAny.one1 4 23 ?_
                  simp -dsimp -implicitDefEqProofs (disch := omega) [go_sem, -List.getD_eq_getElem?_getD, ite_yes, F]
                  refine AAt.of (SubH.setN) ?_
                  refine AAny.one1 3 26 ?_
                  simp -dsimp -implicitDefEqProofs (disch := omega) [go_sem, -List.getD_eq_getElem?_getD, ite_yes, F]
                  refine AAt.of (SubH.setN) ?_
                  refine AAny.one1 2 27 ?_
                  simp -dsimp -implicitDefEqProofs (disch := omega) [go_sem, -List.getD_eq_getElem?_getD, ite_yes, F]
                  refine AAt.of (SubH.setN) ?_
                  refine AAny.one1 1 28 ?_
                  simp -dsimp -implicitDefEqProofs (disch := omega) [go_sem, -List.getD_eq_getElem?_getD, ite_yes, F]
                  first | refine AAt.of (SubH.setN) ?_ | (refine ⟨?_, AAt.of (SubH.setN) ?_⟩; · omega)
                  refine AAny.takes (fuel := 0) (by kernel_rfl) (by kernel_rfl) [29] (by kernel_rfl) (by kernel_rfl) ?_
                  simp -dsimp -implicitDefEqProofs (disch := omega) [go_sem, -List.getD_eq_getElem?_getD, ite_yes, F]
                  refine AAny.done (by kernel_rfl) ?_
                  simp -dsimp -implicitDefEqProofs (disch := omega) [go_sem, -List.getD_eq_getElem?_getD, ite_yes, F]
                  refine ⟨_, _, ⟨(d + 1 + r, p.1, z, b), a7, s7, rfl, by omega, by omega, rfl⟩, weakS_sets [some 0, some 4] rfl ht (h.wms _ _ _ _) ?_ (by simp -dsimp -implicitDefEqProofs (disch := omega) [go_sem, -List.getD_eq_getElem?_getD, ite_yes, ht, htp])⟩
                  simp -dsimp -implicitDefEqProofs (disch := omega) [go_sem, -List.getD_eq_getElem?_getD, ite_yes, htp]
                  exact ⟨wl_net htp, .inl ⟨by simp [vlE], by simp [vlE, flat]⟩⟩
            · as_aux_lemma =>
                simp -dsimp -implicitDefEqProofs (disch := omega) [go_sem, -List.getD_eq_getElem?_getD, ite_yes, F]
                refine ACall.via (one_R ((h.step (by omega)).app _) (by omega) 3 (by omega)) ?_
                rintro _ _ ⟨b, rfl, a7, s7, q7, q7', rfl⟩
                simp -dsimp -implicitDefEqProofs (disch := omega) [go_sem, -List.getD_eq_getElem?_getD, ite_yes, F]
                refine AAt.of (SubH.setN) ?_
                refine AAny.one1 10 9 ?_
                simp -dsimp -implicitDefEqProofs (disch := omega) [go_sem, -List.getD_eq_getElem?_getD, ite_yes, F]
                refine AAt.of (SubH.setN) ?_
                refine AAny.takes (fuel := 7) (by kernel_rfl) (by kernel_rfl) [11, 12, 13] (by kernel_rfl) (by kernel_rfl) ?_
                simp -dsimp -implicitDefEqProofs (disch := omega) [go_sem, -List.getD_eq_getElem?_getD, ite_yes, F]
                refine AAny.one1 6 20 ?_
                simp -dsimp -implicitDefEqProofs (disch := omega) [go_sem, -List.getD_eq_getElem?_getD, ite_yes, F]
                refine AAt.of (SubH.setN) ?_
                refine AAny.takes (fuel := 5) (by kernel_rfl) (by kernel_rfl) [22] (by kernel_rfl) (by kernel_rfl) ?_
                simp -dsimp -implicitDefEqProofs (disch := omega) [go_sem, -List.getD_eq_getElem?_getD, ite_yes, F]
                refine AAny.one1 4 23 ?_
                simp -dsimp -implicitDefEqProofs (disch := omega) [go_sem, -List.getD_eq_getElem?_getD, ite_yes, F]
                refine AAt.of (SubH.setN) ?_
                refine AAny.one1 3 26 ?_
                simp -dsimp -implicitDefEqProofs (disch := omega) [go_sem, -List.getD_eq_getElem?_getD, ite_yes, F]
                refine AAt.of (SubH.setN) ?_
                refine AAny.one1 2 27 ?_
                simp -dsimp -implicitDefEqProofs (disch := omega) [go_sem, -List.getD_eq_getElem?_getD, ite_yes, F]
                refine AAt.of (SubH.setN) ?_
                refine AAny.one1 1 28 ?_
                simp -dsimp -implicitDefEqProofs (disch := omega) [go_sem, -List.getD_eq_getElem?_getD, ite_yes, F]
                first | refine AAt.of (SubH.setN) ?_ | (refine ⟨?_, AAt.of (SubH.setN) ?_⟩; · omega)
                refine AAny.takes (fuel := 0) (by kernel_rfl) (by kernel_rfl) [29] (by kernel_rfl) (by kernel_rfl) ?_
                simp -dsimp -implicitDefEqProofs (disch := omega) [go_sem, -List.getD_eq_getElem?_getD, ite_yes, F]
                refine AAny.done (by kernel_rfl) ?_
                simp -dsimp -implicitDefEqProofs (disch := omega) [go_sem, -List.getD_eq_getElem?_getD, ite_yes, F]
                refine ⟨_, _, ⟨(d + 1 + r, p.1, z, b), a7, s7, rfl, by omega, by omega, rfl⟩, weakS_sets [some 0, some 4] rfl ht (h.wms _ _ _ _) ?_ (by simp -dsimp -implicitDefEqProofs (disch := omega) [go_sem, -List.getD_eq_getElem?_getD, ite_yes, ht, htp])⟩
                simp -dsimp -implicitDefEqProofs (disch := omega) [go_sem, -List.getD_eq_getElem?_getD, ite_yes, htp]
                exact ⟨wl_net htp, .inl ⟨by simp [vlE], by simp [vlE, flat]⟩⟩
        · as_aux_lemma =>
            simp -dsimp -implicitDefEqProofs (disch := omega) [go_sem, -List.getD_eq_getElem?_getD, ite_yes, F]
            refine ACall.via (one_R ((h.step (by omega)).app _) (by omega) 3 (by omega)) ?_
            rintro _ _ ⟨b, rfl, a7, s7, q7, q7', rfl⟩
            simp -dsimp -implicitDefEqProofs (disch := omega) [go_sem, -List.getD_eq_getElem?_getD, ite_yes, F]
            refine AAt.of (SubH.setN) ?_
            refine AAny.two 14 9 15 (by kernel_rfl) (by kernel_rfl) (by kernel_rfl) ?_ ?_
            · as_aux_lemma =>
                simp -dsimp -implicitDefEqProofs (disch := omega) [go_sem, -List.getD_eq_getElem?_getD, ite_yes, F]
                refine AAt.of (SubH.setN) ?_
                refine AAny.takes (fuel := 11) (by kernel_rfl) (by kernel_rfl) [11, 12, 13] (by kernel_rfl) (by kernel_rfl) ?_
                simp -dsimp -implicitDefEqProofs (disch := omega) [go_sem, -List.getD_eq_getElem?_getD, ite_yes, F]
                refine AAny.one1 10 15 ?_
                simp -dsimp -implicitDefEqProofs (disch := omega) [go_sem, -List.getD_eq_getElem?_getD, ite_yes, F]
                refine AAt.of (SubH.setN) ?_
                refine AAny.takes (fuel := 7) (by kernel_rfl) (by kernel_rfl) [17, 18, 19] (by kernel_rfl) (by kernel_rfl) ?_
                simp -dsimp -implicitDefEqProofs (disch := omega) [go_sem, -List.getD_eq_getElem?_getD, ite_yes, F]
                refine AAny.one1 6 20 ?_
                simp -dsimp -implicitDefEqProofs (disch := omega) [go_sem, -List.getD_eq_getElem?_getD, ite_yes, F]
                refine AAt.of (SubH.setN) ?_
                refine AAny.takes (fuel := 5) (by kernel_rfl) (by kernel_rfl) [22] (by kernel_rfl) (by kernel_rfl) ?_
                simp -dsimp -implicitDefEqProofs (disch := omega) [go_sem, -List.getD_eq_getElem?_getD, ite_yes, F]
                refine AAny.one1 4 23 ?_
                simp -dsimp -implicitDefEqProofs (disch := omega) [go_sem, -List.getD_eq_getElem?_getD, ite_yes, F]
                refine AAt.of (SubH.setN) ?_
                refine AAny.one1 3 26 ?_
                simp -dsimp -implicitDefEqProofs (disch := omega) [go_sem, -List.getD_eq_getElem?_getD, ite_yes, F]
                refine AAt.of (SubH.setN) ?_
                refine AAny.one1 2 27 ?_
                simp -dsimp -implicitDefEqProofs (disch := omega) [go_sem, -List.getD_eq_getElem?_getD, ite_yes, F]
                refine AAt.of (SubH.setN) ?_
                refine AAny.one1 1 28 ?_
                simp -dsimp -implicitDefEqProofs (disch := omega) [go_sem, -List.getD_eq_getElem?_getD, ite_yes, F]
                first | refine AAt.of (SubH.setN) ?_ | (refine ⟨?_, AAt.of (SubH.setN) ?_⟩; · omega)
                refine AAny.takes (fuel := 0) (by kernel_rfl) (by kernel_rfl) [29] (by kernel_rfl) (by kernel_rfl) ?_
                simp -dsimp -implicitDefEqProofs (disch := omega) [go_sem, -List.getD_eq_getElem?_getD, ite_yes, F]
                refine AAny.done (by kernel_rfl) ?_
                simp -dsimp -implicitDefEqProofs (disch := omega) [go_sem, -List.getD_eq_getElem?_getD, ite_yes, F]
                refine ⟨_, _, ⟨(d + 1 + r, p.1, z, b), a7, s7, rfl, by omega, by omega, rfl⟩, weakS_sets [some 0, some 4] rfl ht (h.wms _ _ _ _) ?_ (by simp -dsimp -implicitDefEqProofs (disch := omega) [go_sem, -List.getD_eq_getElem?_getD, ite_yes, ht, htp])⟩
                simp -dsimp -implicitDefEqProofs (disch := omega) [go_sem, -List.getD_eq_getElem?_getD, ite_yes, htp]
                exact ⟨wl_net htp, .inl ⟨by simp [vlE], by simp [vlE, flat]⟩⟩
            · as_aux_lemma =>
                simp -dsimp -implicitDefEqProofs (disch := omega) [go_sem, -List.getD_eq_getElem?_getD, ite_yes, F]
                refine AAt.of (SubH.setN) ?_
                refine AAny.takes (fuel := 11) (by kernel_rfl) (by kernel_rfl) [17, 18, 19] (by kernel_rfl) (by kernel_rfl) ?_
                simp -dsimp -implicitDefEqProofs (disch := omega) [go_sem, -List.getD_eq_getElem?_getD, ite_yes, F]
                refine AAny.one1 10 9 ?_
                simp -dsimp -implicitDefEqProofs (disch := omega) [go_sem, -List.getD_eq_getElem?_getD, ite_yes, F]
                refine AAt.of (SubH.setN) ?_
                refine AAny.takes (fuel := 7) (by kernel_rfl) (by kernel_rfl) [11, 12, 13] (by kernel_rfl) (by kernel_rfl) ?_
                simp -dsimp -implicitDefEqProofs (disch := omega) [go_sem, -List.getD_eq_getElem?_getD, ite_yes, F]
                refine AAny.one1 6 20 ?_
                simp -dsimp -implicitDefEqProofs (disch := omega) [go_sem, -List.getD_eq_getElem?_getD, ite_yes, F]
                refine AAt.of (SubH.setN) ?_
                refine AAny.takes (fuel := 5) (by kernel_rfl) (by kernel_rfl) [22] (by kernel_rfl) (by kernel_rfl) ?_
                simp -dsimp -implicitDefEqProofs (disch := omega) [go_sem, -List.getD_eq_getElem?_getD, ite_yes, F]
                refine AAny.one1 4 23 ?_
                simp -dsimp -implicitDefEqProofs (disch := omega) [go_sem, -List.getD_eq_getElem?_getD, ite_yes, F]
                refine AAt.of (SubH.setN) ?_
                refine AAny.one1 3 26 ?_
                simp -dsimp -implicitDefEqProofs (disch := omega) [go_sem, -List.getD_eq_getElem?_getD, ite_yes, F]
                refine AAt.of (SubH.setN) ?_
                refine AAny.one1 2 27 ?_
                simp -dsimp -implicitDefEqProofs (disch := omega) [go_sem, -List.getD_eq_getElem?_getD, ite_yes, F]
                refine AAt.of (SubH.setN) ?_
                refine AAny.one1 1 28 ?_
                simp -dsimp -implicitDefEqProofs (disch := omega) [go_sem, -List.getD_eq_getElem?_getD, ite_yes, F]
                first | refine AAt.of (SubH.setN) ?_ | (refine ⟨?_, AAt.of (SubH.setN) ?_⟩; · omega)
                refine AAny.takes (fuel := 0) (by kernel_rfl) (by kernel_rfl) [29] (by kernel_rfl) (by kernel_rfl) ?_
                simp -dsimp -implicitDefEqProofs (disch := omega) [go_sem, -List.getD_eq_getElem?_getD, ite_yes, F]
                refine AAny.done (by kernel_rfl) ?_
                simp -dsimp -implicitDefEqProofs (disch := omega) [go_sem, -List.getD_eq_getElem?_getD, ite_yes, F]
                refine ⟨_, _, ⟨(d + 1 + r, p.1, z, b), a7, s7, rfl, by omega, by omega, rfl⟩, weakS_sets [some 0, some 4] rfl ht (h.wms _ _ _ _) ?_ (by simp -dsimp -implicitDefEqProofs (disch := omega) [go_sem, -List.getD_eq_getElem?_getD, ite_yes, ht, htp])⟩
                simp -dsimp -implicitDefEqProofs (disch := omega) [go_sem, -List.getD_eq_getElem?_getD, ite_yes, htp]
                exact ⟨wl_net htp, .inl ⟨by simp [vlE], by simp [vlE, flat]⟩⟩
    · as_aux_lemma =>
        simp -dsimp -implicitDefEqProofs (disch := omega) [go_sem, -List.getD_eq_getElem?_getD, ite_yes, F]
        refine AAt.of (SubH.setN) ?_
        refine AAny.takes (fuel := 16) (by kernel_rfl) (by kernel_rfl) [11, 12, 13] (by kernel_rfl) (by kernel_rfl) ?_
        simp -dsimp -implicitDefEqProofs (disch := omega) [go_sem, -List.getD_eq_getElem?_getD, ite_yes, F]
        refine AAny.three 15 3 15 25 (by kernel_rfl) (by kernel_rfl) (by kernel_rfl) ?_ ?_ ?_
        · as_aux_lemma =>
            simp -dsimp -implicitDefEqProofs (disch := omega) [go_sem, -List.getD_eq_getElem?_getD, ite_yes, F]
            refine AAt.of (SubH.setN) ?_
            refine AAny.takes (fuel := 12) (by kernel_rfl) (by kernel_rfl) [5, 6, 7] (by kernel_rfl) (by kernel_rfl) ?_
            simp -dsimp -implicitDefEqProofs (disch := omega) [go_sem, -List.getD_eq_getElem?_getD, ite_yes, F]
            refine AAny.two 11 15 25 (by kernel_rfl) (by kernel_rfl) (by kernel_rfl) ?_ ?_
            · as_aux_lemma =>
                simp -dsimp -implicitDefEqProofs (disch := omega) [go_sem, -List.getD_eq_getElem?_getD, ite_yes, F]
                refine AAt.of (SubH.setN) ?_
                refine AAny.takes (fuel := 8) (by kernel_rfl) (by kernel_rfl) [17, 18, 19] (by kernel_rfl) (by kernel_rfl) ?_
                simp -dsimp -implicitDefEqProofs (disch := omega) [go_sem, -List.getD_eq_getElem?_getD, ite_yes, F]
                refine AAny.two 7 20 25 (by kernel_rfl) (by kernel_rfl) (by kernel_rfl) ?_ ?_
                · simp -dsimp -implicitDefEqProofs (disch := omega) [go_sem, -List.getD_eq_getElem?_getD, ite_yes, F]
                  refine AAt.of (SubH.setN) ?_
                  refine AAny.takes (fuel := 6) (by kernel_rfl) (by kernel_rfl) [22] (by kernel_rfl) (by kernel_rfl) ?_
                  simp -dsimp -implicitDefEqProofs (disch := omega) [go_sem, -List.getD_eq_getElem?_getD, ite_yes, F]
                  refine AAny.two 5 23 25 (by kernel_rfl) (by kernel_rfl) (by kernel_rfl) ?_ ?_
                  · simp -dsimp -implicitDefEqProofs (disch := omega) [go_sem, -List.getD_eq_getElem?_getD, ite_yes, F]
                    refine AAt.of (SubH.setN) ?_
                    refine AAny.one1 4 25 ?_
                    simp -dsimp -implicitDefEqProofs (disch := omega) [go_sem, -List.getD_eq_getElem?_getD, ite_yes, F]
                    refine ACall.via (one_R ((h.step (by omega)).app _) (by omega) 3 (by omega)) ?_
                    rintro _ _ ⟨b, rfl, a7, s7, q7, q7', rfl⟩
                    simp -dsimp -implicitDefEqProofs (disch := omega) [go_sem, -List.getD_eq_getElem?_getD, ite_yes, F]
                    refine AAt.of (SubH.setN) ?_
                    refine AAny.one1 3 26 ?_
                    simp -dsimp -implicitDefEqProofs (disch := omega) [go_sem, -List.getD_eq_getElem?_getD, ite_yes, F]
                    refine AAt.of (SubH.setN) ?_
                    refine AAny.one1 2 27 ?_
                    simp -dsimp -implicitDefEqProofs (disch := omega) [go_sem, -List.getD_eq_getElem?_getD, ite_yes, F]
                    refine AAt.of (SubH.setN) ?_
                    refine AAny.one1 1 28 ?_
                    simp -dsimp -implicitDefEqProofs (disch := omega) [go_sem, -List.getD_eq_getElem?_getD, ite_yes, F]
                    first | refine AAt.of (SubH.setN) ?_ | (refine ⟨?_, AAt.of (SubH.setN) ?_⟩; · omega)
                    refine AAny.takes (fuel := 0) (by kernel_rfl) (by kernel_rfl) [29] (by kernel_rfl) (by kernel_rfl) ?_
                    simp -dsimp -implicitDefEqProofs (disch := omega) [go_sem, -List.getD_eq_getElem?_getD, ite_yes, F]
                    refine AAny.done (by kernel_rfl) ?_
                    simp -dsimp -implicitDefEqProofs (disch := omega) [go_sem, -List.getD_eq_getElem?_getD, ite_yes, F]
                    refine ⟨_, _, ⟨(d + 1 + r, p.1, z, b), a7, s7, rfl, by omega, by omega, rfl⟩, weakS_sets [some 0, some 4] rfl ht (h.wms _ _ _ _) ?_ (by simp -dsimp -implicitDefEqProofs (disch := omega) [go_sem, -List.getD_eq_getElem?_getD, ite_yes, ht, htp])⟩
                    simp -dsimp -implicitDefEqProofs (disch := omega) [go_sem, -List.getD_eq_getElem?_getD, ite_yes, htp]
                    exact ⟨wl_net htp, .inl ⟨by simp [vlE], by simp [vlE, flat]⟩⟩
                  · simp -dsimp -implicitDefEqProofs (disch := omega) [go_sem, -List.getD_eq_getElem?_getD, ite_yes, F]
                    refine ACall.via (one_R ((h.step (by omega)).app _) (by omega) 3 (by omega)) ?_
                    rintro _ _ ⟨b, rfl, a7, s7, q7, q7', rfl⟩
                    simp -dsimp -implicitDefEqProofs (disch := omega) [go_sem, -List.getD_eq_getElem?_getD, ite_yes, F]
                    refine AAt.of (SubH.setN) ?_
                    refine AAny.one1 4 23 ?_
                    simp -dsimp -implicitDefEqProofs (disch := omega) [go_sem, -List.getD_eq_getElem?_getD, ite_yes, F]
                    refine AAt.of (SubH.setN) ?_
                    refine AAny.one1 3 26 ?_
                    simp -dsimp -implicitDefEqProofs (disch := omega) [go_sem, -List.getD_eq_getElem?_getD, ite_yes, F]
                    refine AAt.of (SubH.setN) ?_
                    refine AAny.one1 2 27 ?_
                    simp -dsimp -implicitDefEqProofs (disch := omega) [go_sem, -List.getD_eq_getElem?_getD, ite_yes, F]
                    refine AAt.of (SubH.setN) ?_
                    refine AAny.one1 1 28 ?_
                    simp -dsimp -implicitDefEqProofs (disch := omega) [go_sem, -List.getD_eq_getElem?_getD, ite_yes, F]
                    first | refine AAt.of (SubH.setN) ?_ | (refine ⟨?_, AAt.of (SubH.setN) ?_⟩; · omega)
                    refine AAny.takes (fuel := 0) (by kernel_rfl) (by kernel_rfl) [29] (by kernel_rfl) (by kernel_rfl) ?_
                    simp -dsimp -implicitDefEqProofs (disch := omega) [go_sem, -List.getD_eq_getElem?_getD, ite_yes, F]
                    refine AAny.done (by kernel_rfl) ?_
                    simp -dsimp -implicitDefEqProofs (disch := omega) [go_sem, -List.getD_eq_getElem?_getD, ite_yes, F]
                    refine ⟨_, _, ⟨(d + 1 + r, p.1, z, b), a7, s7, rfl, by omega, by omega, rfl⟩, weakS_sets [some 0, some 4] rfl ht (h.wms _ _ _ _) ?_ (by simp -dsimp -implicitDefEqProofs (disch := omega) [go_sem, -List.getD_eq_getElem?_getD, ite_yes, ht, htp])⟩
                    simp -dsimp -implicitDefEqProofs (disch := omega) [go_sem, -List.getD_eq_getElem?_getD, ite_yes, htp]
                    exact ⟨wl_net htp, .inl ⟨by simp [vlE], by simp [vlE, flat]⟩⟩
                · simp -dsimp -implicitDefEqProofs (disch := omega) [go_sem, -List.getD_eq_getElem?_getD, ite_yes, F]
                  refine ACall.via (one_R ((h.step (by omega)).app _) (by omega) 3 (by omega)) ?_
                  rintro _ _ ⟨b, rfl, a7, s7, q7, q7', rfl⟩
                  simp -dsimp -implicitDefEqProofs (disch := omega) [go_sem, -List.getD_eq_getElem?_getD, ite_yes, F]
                  refine AAt.of (SubH.setN) ?_
                  refine AAny.one1 6 20 ?_
                  simp -dsimp -implicitDefEqProofs (disch := omega) [go_sem, -List.getD_eq_getElem?_getD, ite_yes, F]
                  refine AAt.of (SubH.setN) ?_
                  refine AAny.takes (fuel := 5) (by kernel_rfl) (by kernel_rfl) [22] (by kernel_rfl) (by kernel_rfl) ?_
                  simp -dsimp -implicitDefEqProofs (disch := omega) [go_sem, -List.getD_eq_getElem?_getD, ite_yes, F]
                  refine AAny.one1 4 23 ?_
                  simp -dsimp -implicitDefEqProofs (disch := omega) [go_sem, -List.getD_eq_getElem?_getD, ite_yes, F]
                  refine AAt.of (SubH.setN) ?_
                  refine AAny.one1 3 26 ?_
                  simp -dsimp -implicitDefEqProofs (disch := omega) [go_sem, -List.getD_eq_getElem?_getD, ite_yes, F]
                  refine AAt.of (SubH.setN) ?_
                  refine AAny.one1 2 27 ?_
                  simp -dsimp -implicitDefEqProofs (disch := omega) [go_sem, -List.getD_eq_getElem?_getD, ite_yes, F]
                  refine AAt.of (SubH.setN) ?_
                  refine AAny.one1 1 28 ?_
                  simp -dsimp -implicitDefEqProofs (disch := omega) [go_sem, -List.getD_eq_getElem?_getD, ite_yes, F]
                  first | refine AAt.of (SubH.setN) ?_ | (refine ⟨?_, AAt.of (SubH.setN) ?_⟩; · omega)
                  refine AAny.takes (fuel := 0) (by kernel_rfl) (by kernel_rfl) [29] (by kernel_rfl) (by kernel_rfl) ?_
                  simp -dsimp -implicitDefEqProofs (disch := omega) [go_sem, -List.getD_eq_getElem?_getD, ite_yes, F]
                  refine AAny.done (by kernel_rfl) ?_
                  simp -dsimp -implicitDefEqProofs (disch := omega) [go_sem, -List.getD_eq_getElem?_getD, ite_yes, F]
                  refine ⟨_, _, ⟨(d + 1 + r, p.1, z, b), a7, s7, rfl, by omega, by omega, rfl⟩, weakS_sets [some 0, some 4] rfl ht (h.wms _ _ _ _) ?_ (by simp -dsimp -implicitDefEqProofs (disch := omega) [go_sem, -List.getD_eq_getElem?_getD, ite_yes, ht, htp])⟩
                  simp -dsimp -implicitDefEqProofs (disch := omega) [go_sem, -List.getD_eq_getElem?_getD, ite_yes, htp]
                  exact ⟨wl_net htp, .inl ⟨by simp [vlE], by simp [vlE, flat]⟩⟩
            · as_aux_lemma =>
                simp -dsimp -implicitDefEqProofs (disch := omega) [go_sem, -List.getD_eq_getElem?_getD, ite_yes, F]
                refine ACall.via (one_R ((h.step (by omega)).app _) (by omega) 3 (by omega)) ?_
                rintro _ _ ⟨b, rfl, a7, s7, q7, q7', rfl⟩
                simp -dsimp -implicitDefEqProofs (disch := omega) [go_sem, -List.getD_eq_getElem?_getD, ite_yes, F]
                refine AAt.of (SubH.setN) ?_
                refine AAny.one1 10 15 ?_
                simp -dsimp -implicitDefEqProofs (disch := omega) [go_sem, -List.getD_eq_getElem?_getD, ite_yes, F]
                refine AAt.of (SubH.setN) ?_
                refine AAny.takes (fuel := 7) (by kernel_rfl) (by kernel_rfl) [17, 18, 19] (by kernel_rfl) (by kernel_rfl) ?_
                simp -dsimp -implicitDefEqProofs (disch := omega) [go_sem, -List.getD_eq_getElem?_getD, ite_yes, F]
                refine AAny.one1 6 20 ?_
                simp -dsimp -implicitDefEqProofs (disch := omega) [go_sem, -List.getD_eq_getElem?_getD, ite_yes, F]
                refine AAt.of (SubH.setN) ?_
                refine AAny.takes (fuel := 5) (by kernel_rfl) (by kernel_rfl) [22] (by kernel_rfl) (by kernel_rfl) ?_
                simp -dsimp -implicitDefEqProofs (disch := omega) [go_sem, -List.getD_eq_getElem?_getD, ite_yes, F]
                refine AAny.one1 4 23 ?_
                simp -dsimp -implicitDefEqProofs (disch := omega) [go_sem, -List.getD_eq_getElem?_getD, ite_yes, F]
                refine AAt.of (SubH.setN) ?_
                refine AAny.one1 3 26 ?_
                simp -dsimp -implicitDefEqProofs (disch := omega) [go_sem, -List.getD_eq_getElem?_getD, ite_yes, F]
                refine AAt.of (SubH.setN) ?_
                refine AAny.one1 2 27 ?_
                simp -dsimp -implicitDefEqProofs (disch := omega) [go_sem, -List.getD_eq_getElem?_getD, ite_yes, F]
                refine AAt.of (SubH.setN) ?_
                refine AAny.one1 1 28 ?_
                simp -dsimp -implicitDefEqProofs (disch := omega) [go_sem, -List.getD_eq_getElem?_getD, ite_yes, F]
                first | refine AAt.of (SubH.setN) ?_ | (refine ⟨?_, AAt.of (SubH.setN) ?_⟩; · omega)
                refine AAny.takes (fuel := 0) (by kernel_rfl) (by kernel_rfl) [29] (by kernel_rfl) (by kernel_rfl) ?_
                simp -dsimp -implicitDefEqProofs (disch := omega) [go_sem, -List.getD_eq_getElem?_getD, ite_yes, F]
                refine AAny.done (by kernel_rfl) ?_
                simp -dsimp -implicitDefEqProofs (disch := omega) [go_sem, -List.getD_eq_getElem?_getD, ite_yes, F]
                refine ⟨_, _, ⟨(d + 1 + r, p.1, z, b), a7, s7, rfl, by omega, by omega, rfl⟩, weakS_sets [some 0, some 4] rfl ht (h.wms _ _ _ _) ?_ (by simp -dsimp -implicitDefEqProofs (disch := omega) [go_sem, -List.getD_eq_getElem?_getD, ite_yes, ht, htp])⟩
                simp -dsimp -implicitDefEqProofs (disch := omega) [go_sem, -List.getD_eq_getElem?_getD, ite_yes, htp]
                exact ⟨wl_net htp, .inl ⟨by simp [vlE], by simp [vlE, flat]⟩⟩
        · as_aux_lemma =>
            simp -dsimp -implicitDefEqProofs (disch := omega) [go_sem, -List.getD_eq_getElem?_getD, ite_yes, F]
            refine AAt.of (SubH.setN) ?_
            refine AAny.takes (fuel := 12) (by kernel_rfl) (by kernel_rfl) [17, 18, 19] (by kernel_rfl) (by kernel_rfl) ?_
            simp -dsimp -implicitDefEqProofs (disch := omega) [go_sem, -List.getD_eq_getElem?_getD, ite_yes, F]
            refine AAny.three 11 3 20 25 (by kernel_rfl) (by kernel_rfl) (by kernel_rfl) ?_ ?_ ?_
            · as_aux_lemma =>
                simp -dsimp -implicitDefEqProofs (disch := omega) [go_sem, -List.getD_eq_getElem?_getD, ite_yes, F]
                refine AAt.of (SubH.setN) ?_
                refine AAny.takes (fuel := 8) (by kernel_rfl) (by kernel_rfl) [5, 6, 7] (by kernel_rfl) (by kernel_rfl) ?_
                simp -dsimp -implicitDefEqProofs (disch := omega) [go_sem, -List.getD_eq_getElem?_getD, ite_yes, F]
                refine AAny.two 7 20 25 (by kernel_rfl) (by kernel_rfl) (by kernel_rfl) ?_ ?_
                · simp -dsimp -implicitDefEqProofs (disch := omega) [go_sem, -List.getD_eq_getElem?_getD, ite_yes, F]
                  refine AAt.of (SubH.setN) ?_
                  refine AAny.takes (fuel := 6) (by kernel_rfl) (by kernel_rfl) [22] (by kernel_rfl) (by kernel_rfl) ?_
                  simp -dsimp -implicitDefEqProofs (disch := omega) [go_sem, -List.getD_eq_getElem?_getD, ite_yes, F]
                  refine AAny.two 5 23 25 (by kernel_rfl) (by kernel_rfl) (by kernel_rfl) ?_ ?_
                  · simp -dsimp -implicitDefEqProofs (disch := omega) [go_sem, -List.getD_eq_getElem?_getD, ite_yes, F]
                    refine AAt.of (SubH.setN) ?_
                    refine AAny.one1 4 25 ?_
                    simp -dsimp -implicitDefEqProofs (disch := omega) [go_sem, -List.getD_eq_getElem?_getD, ite_yes, F]
                    refine ACall.via (one_R ((h.step (by omega)).app _) (by omega) 3 (by omega)) ?_
                    rintro _ _ ⟨b, rfl, a7, s7, q7, q7', rfl⟩
                    simp -dsimp -implicitDefEqProofs (disch := omega) [go_sem, -List.getD_eq_getElem?_getD, ite_yes, F]
                    refine AAt.of (SubH.setN) ?_
                    refine AAny.one1 3 26 ?_
                    simp -dsimp -implicitDefEqProofs (disch := omega) [go_sem, -List.getD_eq_getElem?_getD, ite_yes, F]
                    refine AAt.of (SubH.setN) ?_
                    refine AAny.one1 2 27 ?_
                    simp -dsimp -implicitDefEqProofs (disch := omega) [go_sem, -List.getD_eq_getElem?_getD, ite_yes, F]
                    refine AAt.of (SubH.setN) ?_
                    refine AAny.one1 1 28 ?_
                    simp -dsimp -implicitDefEqProofs (disch := omega) [go_sem, -List.getD_eq_getElem?_getD, ite_yes, F]
                    first | refine AAt.of (SubH.setN) ?_ | (refine ⟨?_, AAt.of (SubH.setN) ?_⟩; · omega)
                    refine AAny.takes (fuel := 0) (by kernel_rfl) (by kernel_rfl) [29] (by kernel_rfl) (by kernel_rfl) ?_
                    simp -dsimp -implicitDefEqProofs (disch := omega) [go_sem, -List.getD_eq_getElem?_getD, ite_yes, F]
                    refine AAny.done (by kernel_rfl) ?_
                    simp -dsimp -implicitDefEqProofs (disch := omega) [go_sem, -List.getD_eq_getElem?_getD, ite_yes, F]
                    refine ⟨_, _, ⟨(d + 1 + r, p.1, z, b), a7, s7, rfl, by omega, by omega, rfl⟩, weakS_sets [some 0, some 4] rfl ht (h.wms _ _ _ _) ?_ (by simp -dsimp -implicitDefEqProofs (disch := omega) [go_sem, -List.getD_eq_getElem?_getD, ite_yes, ht, htp])⟩
                    simp -dsimp -implicitDefEqProofs (disch := omega) [go_sem, -List.getD_eq_getElem?_getD, ite_yes, htp]
                    exact ⟨wl_net htp, .inl ⟨by simp [vlE], by simp [vlE, flat]⟩⟩
                  · simp -dsimp -implicitDefEqProofs (disch := omega) [go_sem, -List.getD_eq_getElem?_getD, ite_yes, F]
                    refine ACall.via (one_R ((h.step (by omega)).app _) (by omega) 3 (by omega)) ?_
                    rintro _ _ ⟨b, rfl, a7, s7, q7, q7', rfl⟩
                    simp -dsimp -implicitDefEqProofs (disch := omega) [go_sem, -List.getD_eq_getElem?_getD, ite_yes, F]
                    refine AAt.of (SubH.setN) ?_
                    refine AAny.one1 4 23 ?_
                    simp -dsimp -implicitDefEqProofs (disch := omega) [go_sem, -List.getD_eq_getElem?_getD, ite_yes, F]
                    refine AAt.of (SubH.setN) ?_
                    refine AAny.one1 3 26 ?_
                    simp -dsimp -implicitDefEqProofs (disch := omega) [go_sem, -List.getD_eq_getElem?_getD, ite_yes, F]
                    refine AAt.of (SubH.setN) ?_
                    refine AAny.one1 2 27 ?_
                    simp -dsimp -implicitDefEqProofs (disch := omega) [go_sem, -List.getD_eq_getElem?_getD, ite_yes, F]
                    refine AAt.of (SubH.setN) ?_
                    refine AAny.one1 1 28 ?_
                    simp -dsimp -implicitDefEqProofs (disch := omega) [go_sem, -List.getD_eq_getElem?_getD, ite_yes, F]
                    first | refine AAt.of (SubH.setN) ?_ | (refine ⟨?_, AAt.of (SubH.setN) ?_⟩; · omega)
                    refine AAny.takes (fuel := 0) (by kernel_rfl) (by kernel_rfl) [29] (by kernel_rfl) (by kernel_rfl) ?_
                    simp -dsimp -implicitDefEqProofs (disch := omega) [go_sem, -List.getD_eq_getElem?_getD, ite_yes, F]
                    refine AAny.done (by kernel_rfl) ?_
                    simp -dsimp -implicitDefEqProofs (disch := omega) [go_sem, -List.getD_eq_getElem?_getD, ite_yes, F]
                    refine ⟨_, _, ⟨(d + 1 + r, p.1, z, b), a7, s7, rfl, by omega, by omega, rfl⟩, weakS_sets [some 0, some 4] rfl ht (h.wms _ _ _ _) ?_ (by simp -dsimp -implicitDefEqProofs (disch := omega) [go_sem, -List.getD_eq_getElem?_getD, ite_yes, ht, htp])⟩
                    simp -dsimp -implicitDefEqProofs (disch := omega) [go_sem, -List.getD_eq_getElem?_getD, ite_yes, htp]
                    exact ⟨wl_net htp, .inl ⟨by simp [vlE], by simp [vlE, flat]⟩⟩
                · simp -dsimp -implicitDefEqProofs (disch := omega) [go_sem, -List.getD_eq_getElem?_getD, ite_yes, F]
                  refine ACall.via (one_R ((h.step (by omega)).app _) (by omega) 3 (by omega)) ?_
                  rintro _ _ ⟨b, rfl, a7, s7, q7, q7', rfl⟩
                  simp -dsimp -implicitDefEqProofs (disch := omega) [go_sem, -List.getD_eq_getElem?_getD, ite_yes, F]
                  refine AAt.of (SubH.setN) ?_
                  refine AAny.one1 6 20 ?_
                  simp -dsimp -implicitDefEqProofs (disch := omega) [go_sem, -List.getD_eq_getElem?_getD, ite_yes, F]
                  refine AAt.of (SubH.setN) ?_
                  refine AAny.takes (fuel := 5) (by kernel_rfl) (by kernel_rfl) [22] (by kernel_rfl) (by kernel_rfl) ?_
                  simp -dsimp -implicitDefEqProofs (disch := omega) [go_sem, -List.getD_eq_getElem?_getD, ite_yes, F]
                  refine AAny.one1 4 23 ?_
                  simp -dsimp -implicitDefEqProofs (disch := omega) [go_sem, -List.getD_eq_getElem?_getD, ite_yes, F]
                  refine AAt.of (SubH.setN) ?_
                  refine AAny.one1 3 26 ?_
                  simp -dsimp -implicitDefEqProofs (disch := omega) [go_sem, -List.getD_eq_getElem?_getD, ite_yes, F]
                  refine AAt.of (SubH.setN) ?_
                  refine AAny.one1 2 27 ?_
                  simp -dsimp -implicitDefEqProofs (disch := omega) [go_sem, -List.getD_eq_getElem?_getD, ite_yes, F]
                  refine AAt.of (SubH.setN) ?_
                  refine AAny.one1 1 28 ?_
                  simp -dsimp -implicitDefEqProofs (disch := omega) [go_sem, -List.getD_eq_getElem?_getD, ite_yes, F]
                  first | refine AAt.of (SubH.setN) ?_ | (refine ⟨?_, AAt.of (SubH.setN) ?_⟩; · omega)
                  refine AAny.takes (fuel := 0) (by kernel_rfl) (by kernel_rfl) [29] (by kernel_rfl) (by kernel_rfl) ?_
                  simp -dsimp -implicitDefEqProofs (disch := omega) [go_sem, -List.getD_eq_getElem?_getD, ite_yes, F]
                  refine AAny.done (by kernel_rfl) ?_
                  simp -dsimp -implicitDefEqProofs (disch := omega) [go_sem, -List.getD_eq_getElem?_getD, ite_yes, F]
                  refine ⟨_, _, ⟨(d + 1 + r, p.1, z, b), a7, s7, rfl, by omega, by omega, rfl⟩, weakS_sets [some 0, some 4] rfl ht (h.wms _ _ _ _) ?_ (by simp -dsimp -implicitDefEqProofs (disch := omega) [go_sem, -List.getD_eq_getElem?_getD, ite_yes, ht, htp])⟩
                  simp -dsimp -implicitDefEqProofs (disch := omega) [go_sem, -List.getD_eq_getElem?_getD, ite_yes, htp]
                  exact ⟨wl_net htp, .inl ⟨by simp [vlE], by simp [vlE, flat]⟩⟩
            · as_aux_lemma =>
                simp -dsimp -implicitDefEqProofs (disch := omega) [go_sem, -List.getD_eq_getElem?_getD, ite_yes, F]
                refine AAt.of (SubH.setN) ?_
                refine AAny.takes (fuel := 10) (by kernel_rfl) (by kernel_rfl) [22] (by kernel_rfl) (by kernel_rfl) ?_
                simp -dsimp -implicitDefEqProofs (disch := omega) [go_sem, -List.getD_eq_getElem?_getD, ite_yes, F]
                refine AAny.three 9 3 23 25 (by kernel_rfl) (by kernel_rfl) (by kernel_rfl) ?_ ?_ ?_
                · simp -dsimp -implicitDefEqProofs (disch := omega) [go_sem, -List.getD_eq_getElem?_getD, ite_yes, F]
                  refine AAt.of (SubH.setN) ?_
                  refine AAny.takes (fuel := 6) (by kernel_rfl) (by kernel_rfl) [5, 6, 7] (by kernel_rfl) (by kernel_rfl) ?_
                  simp -dsimp -implicitDefEqProofs (disch := omega) [go_sem, -List.getD_eq_getElem?_getD, ite_yes, F]
                  refine AAny.two 5 23 25 (by kernel_rfl) (by kernel_rfl) (by kernel_rfl) ?_ ?_
                  · simp -dsimp -implicitDefEqProofs (disch := omega) [go_sem, -List.getD_eq_getElem?_getD, ite_yes, F]
                    refine AAt.of (SubH.setN) ?_
                    refine AAny.one1 4 25 ?_
                    simp -dsimp -implicitDefEqProofs (disch := omega) [go_sem, -List.getD_eq_getElem?_getD, ite_yes, F]
                    refine ACall.via (one_R ((h.step (by omega)).app _) (by omega) 3 (by omega)) ?_
                    rintro _ _ ⟨b, rfl, a7, s7, q7, q7', rfl⟩
                    simp -dsimp -implicitDefEqProofs (disch := omega) [go_sem, -List.getD_eq_getElem?_getD, ite_yes, F]
                    refine AAt.of (SubH.setN) ?_
                    refine AAny.one1 3 26 ?_
                    simp -dsimp -implicitDefEqProofs (disch := omega) [go_sem, -List.getD_eq_getElem?_getD, ite_yes, F]
                    refine AAt.of (SubH.setN) ?_
                    refine AAny.one1 2 27 ?_
                    simp -dsimp -implicitDefEqProofs (disch := omega) [go_sem, -List.getD_eq_getElem?_getD, ite_yes, F]
                    refine AAt.of (SubH.setN) ?_
                    refine AAny.one1 1 28 ?_
                    simp -dsimp -implicitDefEqProofs (disch := omega) [go_sem, -List.getD_eq_getElem?_getD, ite_yes, F]
                    first | refine AAt.of (SubH.setN) ?_ | (refine ⟨?_, AAt.of (SubH.setN) ?_⟩; · omega)
                    refine AAny.takes (fuel := 0) (by kernel_rfl) (by kernel_rfl) [29] (by kernel_rfl) (by kernel_rfl) ?_
                    simp -dsimp -implicitDefEqProofs (disch := omega) [go_sem, -List.getD_eq_getElem?_getD, ite_yes, F]
                    refine AAny.done (by kernel_rfl) ?_
                    simp -dsimp -implicitDefEqProofs (disch := omega) [go_sem, -List.getD_eq_getElem?_getD, ite_yes, F]
                    refine ⟨_, _, ⟨(d + 1 + r, p.1, z, b), a7, s7, rfl, by omega, by omega, rfl⟩, weakS_sets [some 0, some 4] rfl ht (h.wms _ _ _ _) ?_ (by simp -dsimp -implicitDefEqProofs (disch := omega) [go_sem, -List.getD_eq_getElem?_getD, ite_yes, ht, htp])⟩
                    simp -dsimp -implicitDefEqProofs (disch := omega) [go_sem, -List.getD_eq_getElem?_getD, ite_yes, htp]
                    exact ⟨wl_net htp, .inl ⟨by simp [vlE], by simp [vlE, flat]⟩⟩
                  · simp -dsimp -implicitDefEqProofs (disch := omega) [go_sem, -List.getD_eq_getElem?_getD, ite_yes, F]
                    refine ACall.via (one_R ((h.step (by omega)).app _) (by omega) 3 (by omega)) ?_
                    rintro _ _ ⟨b, rfl, a7, s7, q7, q7', rfl⟩
                    simp -dsimp -implicitDefEqProofs (disch := omega) [go_sem, -List.getD_eq_getElem?_getD, ite_yes, F]
                    refine AAt.of (SubH.setN) ?_
                    refine AAny.one1 4 23 ?_
                    simp -dsimp -implicitDefEqProofs (disch := omega) [go_sem, -List.getD_eq_getElem?_getD, ite_yes, F]
                    refine AAt.of (SubH.setN) ?_
                    refine AAny.one1 3 26 ?_
                    simp -dsimp -implicitDefEqProofs (disch := omega) [go_sem, -List.getD_eq_getElem?_getD, ite_yes, F]
                    refine AAt.of (SubH.setN) ?_
                    refine AAny.one1 2 27 ?_
                    simp -dsimp -implicitDefEqProofs (disch := omega) [go_sem, -List.getD_eq_getElem?_getD, ite_yes, F]
                    refine AAt.of (SubH.setN) ?_
                    refine AAny.one1 1 28 ?_
                    simp -dsimp -implicitDefEqProofs (disch := omega) [go_sem, -List.getD_eq_getElem?_getD, ite_yes, F]
                    first | refine AAt.of (SubH.setN) ?_ | (refine ⟨?_, AAt.of (SubH.setN) ?_⟩; · omega)
                    refine AAny.takes (fuel := 0) (by kernel_rfl) (by kernel_rfl) [29] (by kernel_rfl) (by kernel_rfl) ?_
                    simp -dsimp -implicitDefEqProofs (disch := omega) [go_sem, -List.getD_eq_getElem?_getD, ite_yes, F]
                    refine AAny.done (by kernel_rfl) ?_
                    simp -dsimp -implicitDefEqProofs (disch := omega) [go_sem, -List.getD_eq_getElem?_getD, ite_yes, F]
                    refine ⟨_, _, ⟨(d + 1 + r, p.1, z, b), a7, s7, rfl, by omega, by omega, rfl⟩, weakS_sets [some 0, some 4] rfl ht (h.wms _ _ _ _) ?_ (by simp -dsimp -implicitDefEqProofs (disch := omega) [go_sem, -List.getD_eq_getElem?_getD, ite_yes, ht, htp])⟩
                    simp -dsimp -implicitDefEqProofs (disch := omega) [go_sem, -List.getD_eq_getElem?_getD, ite_yes, htp]
                    exact ⟨wl_net htp, .inl ⟨by simp [vlE], by simp [vlE, flat]⟩⟩
                · simp -dsimp -implicitDefEqProofs (disch := omega) [go_sem, -List.getD_eq_getElem?_getD, ite_yes, F]
                  refine AAt.of (SubH.setN) ?_
                  refine AAny.two 8 3 25 (by kernel_rfl) (by kernel_rfl) (by kernel_rfl) ?_ ?_
                  · simp -dsimp -implicitDefEqProofs (disch := omega) [go_sem, -List.getD_eq_getElem?_getD, ite_yes, F]
                    refine AAt.of (SubH.setN) ?_
                    refine AAny.takes (fuel := 5) (by kernel_rfl) (by kernel_rfl) [5, 6, 7] (by kernel_rfl) (by kernel_rfl) ?_
                    simp -dsimp -implicitDefEqProofs (disch := omega) [go_sem, -List.getD_eq_getElem?_getD, ite_yes, F]
                    refine AAny.one1 4 25 ?_
                    simp -dsimp -implicitDefEqProofs (disch := omega) [go_sem, -List.getD_eq_getElem?_getD, ite_yes, F]
                    refine ACall.via (one_R ((h.step (by omega)).app _) (by omega) 3 (by omega)) ?_
                    rintro _ _ ⟨b, rfl, a7, s7, q7, q7', rfl⟩
                    simp -dsimp -implicitDefEqProofs (disch := omega) [go_sem, -List.getD_eq_getElem?_getD, ite_yes, F]
                    refine AAt.of (SubH.setN) ?_
                    refine AAny.one1 3 26 ?_
                    simp -dsimp -implicitDefEqProofs (disch := omega) [go_sem, -List.getD_eq_getElem?_getD, ite_yes, F]
                    refine AAt.of (SubH.setN) ?_
                    refine AAny.one1 2 27 ?_
                    simp -dsimp -implicitDefEqProofs (disch := omega) [go_sem, -List.getD_eq_getElem?_getD, ite_yes, F]
                    refine AAt.of (SubH.setN) ?_
                    refine AAny.one1 1 28 ?_
                    simp -dsimp -implicitDefEqProofs (disch := omega) [go_sem, -List.getD_eq_getElem?_getD, ite_yes, F]
                    first | refine AAt.of (SubH.setN) ?_ | (refine ⟨?_, AAt.of (SubH.setN) ?_⟩; · omega)
                    refine AAny.takes (fuel := 0) (by kernel_rfl) (by kernel_rfl) [29] (by kernel_rfl) (by kernel_rfl) ?_
                    simp -dsimp -implicitDefEqProofs (disch := omega) [go_sem, -List.getD_eq_getElem?_getD, ite_yes, F]
                    refine AAny.done (by kernel_rfl) ?_
                    simp -dsimp -implicitDefEqProofs (disch := omega) [go_sem, -List.getD_eq_getElem?_getD, ite_yes, F]
                    refine ⟨_, _, ⟨(d + 1 + r, p.1, z, b), a7, s7, rfl, by omega, by omega, rfl⟩, weakS_sets [some 0, some 4] rfl ht (h.wms _ _ _ _) ?_ (by simp -dsimp -implicitDefEqProofs (disch := omega) [go_sem, -List.getD_eq_getElem?_getD, ite_yes, ht, htp])⟩
                    simp -dsimp -implicitDefEqProofs (disch := omega) [go_sem, -List.getD_eq_getElem?_getD, ite_yes, htp]
                    exact ⟨wl_net htp, .inl ⟨by simp [vlE], by simp [vlE, flat]⟩⟩
                  · simp -dsimp -implicitDefEqProofs (disch := omega) [go_sem, -List.getD_eq_getElem?_getD, ite_yes, F]
                    refine ACall.via (one_R ((h.step (by omega)).app _) (by omega) 3 (by omega)) ?_
                    rintro _ _ ⟨b, rfl, a7, s7, q7, q7', rfl⟩
                    simp -dsimp -implicitDefEqProofs (disch := omega) [go_sem, -List.getD_eq_getElem?_getD, ite_yes, F]
                    refine AAt.of (SubH.setN) ?_
                    refine AAny.one1 7 3 ?_
                    simp -dsimp -implicitDefEqProofs (disch := omega) [go_sem, -List.getD_eq_getElem?_getD, ite_yes, F]
                    refine AAt.of (SubH.setN) ?_
                    refine AAny.takes (fuel := 4) (by kernel_rfl) (by kernel_rfl) [5, 6, 7] (by kernel_rfl) (by kernel_rfl) ?_
                    simp -dsimp -implicitDefEqProofs (disch := omega) [go_sem, -List.getD_eq_getElem?_getD, ite_yes, F]
                    refine AAny.one1 3 26 ?_
                    simp -dsimp -implicitDefEqProofs (disch := omega) [go_sem, -List.getD_eq_getElem?_getD, ite_yes, F]
                    refine AAt.of (SubH.setN) ?_
                    refine AAny.one1 2 27 ?_
                    simp -dsimp -implicitDefEqProofs (disch := omega) [go_sem, -List.getD_eq_getElem?_getD, ite_yes, F]
                    refine AAt.of (SubH.setN) ?_
                    refine AAny.one1 1 28 ?_
                    simp -dsimp -implicitDefEqProofs (disch := omega) [go_sem, -List.getD_eq_getElem?_getD, ite_yes, F]
                    first | refine AAt.of (SubH.setN) ?_ | (refine ⟨?_, AAt.of (SubH.setN) ?_⟩; · omega)
                    refine AAny.takes (fuel := 0) (by kernel_rfl) (by kernel_rfl) [29] (by kernel_rfl) (by kernel_rfl) ?_
                    simp -dsimp -implicitDefEqProofs (disch := omega) [go_sem, -List.getD_eq_getElem?_getD, ite_yes, F]
                    refine AAny.done (by kernel_rfl) ?_
                    simp -dsimp -implicitDefEqProofs (disch := omega) [go_sem, -List.getD_eq_getElem?_getD, ite_yes, F]
                    refine ⟨_, _, ⟨(d + 1 + r, p.1, z, b), a7, s7, rfl, by omega, by omega, rfl⟩, weakS_sets [some 0, some 4] rfl ht (h.wms _ _ _ _) ?_ (by simp -dsimp -implicitDefEqProofs (disch := omega) [go_sem, -List.getD_eq_getElem?_getD, ite_yes, ht, htp])⟩
                    simp -dsimp -implicitDefEqProofs (disch := omega) [go_sem, -List.getD_eq_getElem?_getD, ite_yes, htp]
                    exact ⟨wl_net htp, .inl ⟨by simp [vlE], by simp [vlE, flat]⟩⟩
                · simp -dsimp -implicitDefEqProofs (disch := omega) [go_sem, -List.getD_eq_getElem?_getD, ite_yes, F]
                  refine ACall.via (one_R ((h.step (by omega)).app _) (by omega) 3 (by omega)) ?_
                  rintro _ _ ⟨b, rfl, a7, s7, q7, q7', rfl⟩
                  simp -dsimp -implicitDefEqProofs (disch := omega) [go_sem, -List.getD_eq_getElem?_getD, ite_yes, F]
                  refine AAt.of (SubH.setN) ?_
                  refine AAny.two 8 3 23 (by kernel_rfl) (by kernel_rfl) (by kernel_rfl) ?_ ?_
                  · simp -dsimp -implicitDefEqProofs (disch := omega) [go_sem, -List.getD_eq_getElem?_getD, ite_yes, F]
                    refine AAt.of (SubH.setN) ?_
                    refine AAny.takes (fuel := 5) (by kernel_rfl) (by kernel_rfl) [5, 6, 7] (by kernel_rfl) (by kernel_rfl) ?_
                    simp -dsimp -implicitDefEqProofs (disch := omega) [go_sem, -List.getD_eq_getElem?_getD, ite_yes, F]
                    refine AAny.one1 4 23 ?_
                    simp -dsimp -implicitDefEqProofs (disch := omega) [go_sem, -List.getD_eq_getElem?_getD, ite_yes, F]
                    refine AAt.of (SubH.setN) ?_
                    refine AAny.one1 3 26 ?_
                    simp -dsimp -implicitDefEqProofs (disch := omega) [go_sem, -List.getD_eq_getElem?_getD, ite_yes, F]
                    refine AAt.of (SubH.setN) ?_
                    refine AAny.one1 2 27 ?_
                    simp -dsimp -implicitDefEqProofs (disch := omega) [go_sem, -List.getD_eq_getElem?_getD, ite_yes, F]
                    refine AAt.of (SubH.setN) ?_
                    refine AAny.one1 1 28 ?_
                    simp -dsimp -implicitDefEqProofs (disch := omega) [go_sem, -List.getD_eq_getElem?_getD, ite_yes, F]
                    first | refine AAt.of (SubH.setN) ?_ | (refine ⟨?_, AAt.of (SubH.setN) ?_⟩; · omega)
                    refine AAny.takes (fuel := 0) (by kernel_rfl) (by kernel_rfl) [29] (by kernel_rfl) (by kernel_rfl) ?_
                    simp -dsimp -implicitDefEqProofs (disch := omega) [go_sem, -List.getD_eq_getElem?_getD, ite_yes, F]
                    refine AAny.done (by kernel_rfl) ?_
                    simp -dsimp -implicitDefEqProofs (disch := omega) [go_sem, -List.getD_eq_getElem?_getD, ite_yes, F]
                    refine ⟨_, _, ⟨(d + 1 + r, p.1, z, b), a7, s7, rfl, by omega, by omega, rfl⟩, weakS_sets [some 0, some 4] rfl ht (h.wms _ _ _ _) ?_ (by simp -dsimp -implicitDefEqProofs (disch := omega) [go_sem, -List.getD_eq_getElem?_getD, ite_yes, ht, htp])⟩
                    simp -dsimp -implicitDefEqProofs (disch := omega) [go_sem, -List.getD_eq_getElem?_getD, ite_yes, htp]
                    exact ⟨wl_net htp, .inl ⟨by simp [vlE], by simp [vlE, flat]⟩⟩
                  · simp -dsimp -implicitDefEqProofs (disch := omega) [go_sem, -List.getD_eq_getElem?_getD, ite_yes, F]
                    refine AAt.of (SubH.setN) ?_
                    refine AAny.one1 7 3 ?_
                    simp -dsimp -implicitDefEqProofs (disch := omega) [go_sem, -List.getD_eq_getElem?_getD, ite_yes, F]
                    refine AAt.of (SubH.setN) ?_
                    refine AAny.takes (fuel := 4) (by kernel_rfl) (by kernel_rfl) [5, 6, 7] (by kernel_rfl) (by kernel_rfl) ?_
                    simp -dsimp -implicitDefEqProofs (disch := omega) [go_sem, -List.getD_eq_getElem?_getD, ite_yes, F]
                    refine AAny.one1 3 26 ?_
                    simp -dsimp -implicitDefEqProofs (disch := omega) [go_sem, -List.getD_eq_getElem?_getD, ite_yes, F]
                    refine AAt.of (SubH.setN) ?_
                    refine AAny.one1 2 27 ?_
                    simp -dsimp -implicitDefEqProofs (disch := omega) [go_sem, -List.getD_eq_getElem?_getD, ite_yes, F]
                    refine AAt.of (SubH.setN) ?_
                    refine AAny.one1 1 28 ?_
                    simp -dsimp -implicitDefEqProofs (disch := omega) [go_sem, -List.getD_eq_getElem?_getD, ite_yes, F]
                    first | refine AAt.of (SubH.setN) ?_ | (refine ⟨?_, AAt.of (SubH.setN) ?_⟩; · omega)
                    refine AAny.takes (fuel := 0) (by kernel_rfl) (by kernel_rfl) [29] (by kernel_rfl) (by kernel_rfl) ?_
                    simp -dsimp -implicitDefEqProofs (disch := omega) [go_sem, -List.getD_eq_getElem?_getD, ite_yes, F]
                    refine AAny.done (by kernel_rfl) ?_
                    simp -dsimp -implicitDefEqProofs (disch := omega) [go_sem, -List.getD_eq_getElem?_getD, ite_yes, F]
                    refine ⟨_, _, ⟨(d + 1 + r, p.1, z, b), a7, s7, rfl, by omega, by omega, rfl⟩, weakS_sets [some 0, some 4] rfl ht (h.wms _ _ _ _) ?_ (by simp -dsimp -implicitDefEqProofs (disch := omega) [go_sem, -List.getD_eq_getElem?_getD, ite_yes, ht, htp])⟩
                    simp -dsimp -implicitDefEqProofs (disch := omega) [go_sem, -List.getD_eq_getElem?_getD, ite_yes, htp]
                    exact ⟨wl_net htp, .inl ⟨by simp [vlE], by simp [vlE, flat]⟩⟩
            · as_aux_lemma =>
                simp -dsimp -implicitDefEqProofs (disch := omega) [go_sem, -List.getD_eq_getElem?_getD, ite_yes, F]
                refine ACall.via (one_R ((h.step (by omega)).app _) (by omega) 3 (by omega)) ?_
                rintro _ _ ⟨b, rfl, a7, s7, q7, q7', rfl⟩
                simp -dsimp -implicitDefEqProofs (disch := omega) [go_sem, -List.getD_eq_getElem?_getD, ite_yes, F]
                refine AAt.of (SubH.setN) ?_
                refine AAny.two 10 3 20 (by kernel_rfl) (by kernel_rfl) (by kernel_rfl) ?_ ?_
                · simp -dsimp -implicitDefEqProofs (disch := omega) [go_sem, -List.getD_eq_getElem?_getD, ite_yes, F]
                  refine AAt.of (SubH.setN) ?_
                  refine AAny.takes (fuel := 7) (by kernel_rfl) (by kernel_rfl) [5, 6, 7] (by kernel_rfl) (by kernel_rfl) ?_
                  simp -dsimp -implicitDefEqProofs (disch := omega) [go_sem, -List.getD_eq_getElem?_getD, ite_yes, F]
                  refine AAny.one1 6 20 ?_
                  simp -dsimp -implicitDefEqProofs (disch := omega) [go_sem, -List.getD_eq_getElem?_getD, ite_yes, F]
                  refine AAt.of (SubH.setN) ?_
                  refine AAny.takes (fuel := 5) (by kernel_rfl) (by kernel_rfl) [22] (by kernel_rfl) (by kernel_rfl) ?_
                  simp -dsimp -implicitDefEqProofs (disch := omega) [go_sem, -List.getD_eq_getElem?_getD, ite_yes, F]
                  refine AAny.one1 4 23 ?_
                  simp -dsimp -implicitDefEqProofs (disch := omega) [go_sem, -List.getD_eq_getElem?_getD, ite_yes, F]
                  refine AAt.of (SubH.setN) ?_
                  refine AAny.one1 3 26 ?_
                  simp -dsimp -implicitDefEqProofs (disch := omega) [go_sem, -List.getD_eq_getElem?_getD, ite_yes, F]
                  refine AAt.of (SubH.setN) ?_
                  refine AAny.one1 2 27 ?_
                  simp -dsimp -implicitDefEqProofs (disch := omega) [go_sem, -List.getD_eq_getElem?_getD, ite_yes, F]
                  refine AAt.of (SubH.setN) ?_
                  refine AAny.one1 1 28 ?_
                  simp -dsimp -implicitDefEqProofs (disch := omega) [go_sem, -List.getD_eq_getElem?_getD, ite_yes, F]
                  first | refine AAt.of (SubH.setN) ?_ | (refine ⟨?_, AAt.of (SubH.setN) ?_⟩; · omega)
                  refine AAny.takes (fuel := 0) (by kernel_rfl) (by kernel_rfl) [29] (by kernel_rfl) (by kernel_rfl) ?_
                  simp -dsimp -implicitDefEqProofs (disch := omega) [go_sem, -List.getD_eq_getElem?_getD, ite_yes, F]
                  refine AAny.done (by kernel_rfl) ?_
                  simp -dsimp -implicitDefEqProofs (disch := omega) [go_sem, -List.getD_eq_getElem?_getD, ite_yes, F]
                  refine ⟨_, _, ⟨(d + 1 + r, p.1, z, b), a7, s7, rfl, by omega, by omega, rfl⟩, weakS_sets [some 0, some 4] rfl ht (h.wms _ _ _ _) ?_ (by simp -dsimp -implicitDefEqProofs (disch := omega) [go_sem, -List.getD_eq_getElem?_getD, ite_yes, ht, htp])⟩
                  simp -dsimp -implicitDefEqProofs (disch := omega) [go_sem, -List.getD_eq_getElem?_getD, ite_yes, htp]
                  exact ⟨wl_net htp, .inl ⟨by simp [vlE], by simp [vlE, flat]⟩⟩
                · simp -dsimp -implicitDefEqProofs (disch := omega) [go_sem, -List.getD_eq_getElem?_getD, ite_yes, F]
                  refine AAt.of (SubH.setN) ?_
                  refine AAny.takes (fuel := 9) (by kernel_rfl) (by kernel_rfl) [22] (by kernel_rfl) (by kernel_rfl) ?_
                  simp -dsimp -implicitDefEqProofs (disch := omega) [go_sem, -List.getD_eq_getElem?_getD, ite_yes, F]
                  refine AAny.two 8 3 23 (by kernel_rfl) (by kernel_rfl) (by kernel_rfl) ?_ ?_
                  · simp -dsimp -implicitDefEqProofs (disch := omega) [go_sem, -List.getD_eq_getElem?_getD, ite_yes, F]
                    refine AAt.of (SubH.setN) ?_
                    refine AAny.takes (fuel := 5) (by kernel_rfl) (by kernel_rfl) [5, 6, 7] (by kernel_rfl) (by kernel_rfl) ?_
                    simp -dsimp -implicitDefEqProofs (disch := omega) [go_sem, -List.getD_eq_getElem?_getD, ite_yes, F]
                    refine AAny.one1 4 23 ?_
                    simp -dsimp -implicitDefEqProofs (disch := omega) [go_sem, -List.getD_eq_getElem?_getD, ite_yes, F]
                    refine AAt.of (SubH.setN) ?_
                    refine AAny.one1 3 26 ?_
                    simp -dsimp -implicitDefEqProofs (disch := omega) [go_sem, -List.getD_eq_getElem?_getD, ite_yes, F]
                    refine AAt.of (SubH.setN) ?_
                    refine AAny.one1 2 27 ?_
                    simp -dsimp -implicitDefEqProofs (disch := omega) [go_sem, -List.getD_eq_getElem?_getD, ite_yes, F]
                    refine AAt.of (SubH.setN) ?_
                    refine AAny.one1 1 28 ?_
                    simp -dsimp -implicitDefEqProofs (disch := omega) [go_sem, -List.getD_eq_getElem?_getD, ite_yes, F]
                    first | refine AAt.of (SubH.setN) ?_ | (refine ⟨?_, AAt.of (SubH.setN) ?_⟩; · omega)
                    refine AAny.takes (fuel := 0) (by kernel_rfl) (by kernel_rfl) [29] (by kernel_rfl) (by kernel_rfl) ?_
                    simp -dsimp -implicitDefEqProofs (disch := omega) [go_sem, -List.getD_eq_getElem?_getD, ite_yes, F]
                    refine AAny.done (by kernel_rfl) ?_
                    simp -dsimp -implicitDefEqProofs (disch := omega) [go_sem, -List.getD_eq_getElem?_getD, ite_yes, F]
                    refine ⟨_, _, ⟨(d + 1 + r, p.1, z, b), a7, s7, rfl, by omega, by omega, rfl⟩, weakS_sets [some 0, some 4] rfl ht (h.wms _ _ _ _) ?_ (by simp -dsimp -implicitDefEqProofs (disch := omega) [go_sem, -List.getD_eq_getElem?_getD, ite_yes, ht, htp])⟩
                    simp -dsimp -implicitDefEqProofs (disch := omega) [go_sem, -List.getD_eq_getElem?_getD, ite_yes, htp]
                    exact ⟨wl_net htp, .inl ⟨by simp [vlE], by simp [vlE, flat]⟩⟩
                  · simp -dsimp -implicitDefEqProofs (disch := omega) [go_sem, -List.getD_eq_getElem?_getD, ite_yes, F]
                    refine AAt.of (SubH.setN) ?_
                    refine AAny.one1 7 3 ?_
                    simp -dsimp -implicitDefEqProofs (disch := omega) [go_sem, -List.getD_eq_getElem?_getD, ite_yes, F]
                    refine AAt.of (SubH.setN) ?_
                    refine AAny.takes (fuel := 4) (by kernel_rfl) (by kernel_rfl) [5, 6, 7] (by kernel_rfl) (by kernel_rfl) ?_
                    simp -dsimp -implicitDefEqProofs (disch := omega) [go_sem, -List.getD_eq_getElem?_getD, ite_yes, F]
                    refine AAny.one1 3 26 ?_
                    simp -dsimp -implicitDefEqProofs (disch := omega) [go_sem, -List.getD_eq_getElem?_getD, ite_yes, F]
                    refine AAt.of (SubH.setN) ?_
                    refine AAny.one1 2 27 ?_
                    simp -dsimp -implicitDefEqProofs (disch := omega) [go_sem, -List.getD_eq_getElem?_getD, ite_yes, F]
                    refine AAt.of (SubH.setN) ?_
                    refine AAny.one1 1 28 ?_
                    simp -dsimp -implicitDefEqProofs (disch := omega) [go_sem, -List.getD_eq_getElem?_getD, ite_yes, F]
                    first | refine AAt.of (SubH.setN) ?_ | (refine ⟨?_, AAt.of (SubH.setN) ?_⟩; · omega)
                    refine AAny.takes (fuel := 0) (by kernel_rfl) (by kernel_rfl) [29] (by kernel_rfl) (by kernel_rfl) ?_
                    simp -dsimp -implicitDefEqProofs (disch := omega) [go_sem, -List.getD_eq_getElem?_getD, ite_yes, F]
                    refine AAny.done (by kernel_rfl) ?_
                    simp -dsimp -implicitDefEqProofs (disch := omega) [go_sem, -List.getD_eq_getElem?_getD, ite_yes, F]
                    refine ⟨_, _, ⟨(d + 1 + r, p.1, z, b), a7, s7, rfl, by omega, by omega, rfl⟩, weakS_sets [some 0, some 4] rfl ht (h.wms _ _ _ _) ?_ (by simp -dsimp -implicitDefEqProofs (disch := omega) [go_sem, -List.getD_eq_getElem?_getD, ite_yes, ht, htp])⟩
                    simp -dsimp -implicitDefEqProofs (disch := omega) [go_sem, -List.getD_eq_getElem?_getD, ite_yes, htp]
                    exact ⟨wl_net htp, .inl ⟨by simp [vlE], by simp [vlE, flat]⟩⟩
        · as_aux_lemma =>
            simp -dsimp -implicitDefEqProofs (disch := omega) [go_sem, -List.getD_eq_getElem?_getD, ite_yes, F]
            refine ACall.via (one_R ((h.step (by omega)).app _) (by omega) 3 (by omega)) ?_
            rintro _ _ ⟨b, rfl, a7, s7, q7, q7', rfl⟩
            simp -dsimp -implicitDefEqProofs (disch := omega) [go_sem, -List.getD_eq_getElem?_getD, ite_yes, F]
            refine AAt.of (SubH.setN) ?_
            refine AAny.two 14 3 15 (by kernel_rfl) (by kernel_rfl) (by kernel_rfl) ?_ ?_
            · as_aux_lemma =>
                simp -dsimp -implicitDefEqProofs (disch := omega) [go_sem, -List.getD_eq_getElem?_getD, ite_yes, F]
                refine AAt.of (SubH.setN) ?_
                refine AAny.takes (fuel := 11) (by kernel_rfl) (by kernel_rfl) [5, 6, 7] (by kernel_rfl) (by kernel_rfl) ?_
                simp -dsimp -implicitDefEqProofs (disch := omega) [go_sem, -List.getD_eq_getElem?_getD, ite_yes, F]
                refine AAny.one1 10 15 ?_
                simp -dsimp -implicitDefEqProofs (disch := omega) [go_sem, -List.getD_eq_getElem?_getD, ite_yes, F]
                refine AAt.of (SubH.setN) ?_
                refine AAny.takes (fuel := 7) (by kernel_rfl) (by kernel_rfl) [17, 18, 19] (by kernel_rfl) (by kernel_rfl) ?_
                simp -dsimp -implicitDefEqProofs (disch := omega) [go_sem, -List.getD_eq_getElem?_getD, ite_yes, F]
                refine AAny.one1 6 20 ?_
                simp -dsimp -implicitDefEqProofs (disch := omega) [go_sem, -List.getD_eq_getElem?_getD, ite_yes, F]
                refine AAt.of (SubH.setN) ?_
                refine AAny.takes (fuel := 5) (by kernel_rfl) (by kernel_rfl) [22] (by kernel_rfl) (by kernel_rfl) ?_
                simp -dsimp -implicitDefEqProofs (disch := omega) [go_sem, -List.getD_eq_getElem?_getD, ite_yes, F]
                refine AAny.one1 4 23 ?_
                simp -dsimp -implicitDefEqProofs (disch := omega) [go_sem, -List.getD_eq_getElem?_getD, ite_yes, F]
                refine AAt.of (SubH.setN) ?_
                refine AAny.one1 3 26 ?_
                simp -dsimp -implicitDefEqProofs (disch := omega) [go_sem, -List.getD_eq_getElem?_getD, ite_yes, F]
                refine AAt.of (SubH.setN) ?_
                refine AAny.one1 2 27 ?_
                simp -dsimp -implicitDefEqProofs (disch := omega) [go_sem, -List.getD_eq_getElem?_getD, ite_yes, F]
                refine AAt.of (SubH.setN) ?_
                refine AAny.one1 1 28 ?_
                simp -dsimp -implicitDefEqProofs (disch := omega) [go_sem, -List.getD_eq_getElem?_getD, ite_yes, F]
                first | refine AAt.of (SubH.setN) ?_ | (refine ⟨?_, AAt.of (SubH.setN) ?_⟩; · omega)
                refine AAny.takes (fuel := 0) (by kernel_rfl) (by kernel_rfl) [29] (by kernel_rfl) (by kernel_rfl) ?_
                simp -dsimp -implicitDefEqProofs (disch := omega) [go_sem, -List.getD_eq_getElem?_getD, ite_yes, F]
                refine AAny.done (by kernel_rfl) ?_
                simp -dsimp -implicitDefEqProofs (disch := omega) [go_sem, -List.getD_eq_getElem?_getD, ite_yes, F]
                refine ⟨_, _, ⟨(d + 1 + r, p.1, z, b), a7, s7, rfl, by omega, by omega, rfl⟩, weakS_sets [some 0, some 4] rfl ht (h.wms _ _ _ _) ?_ (by simp -dsimp -implicitDefEqProofs (disch := omega) [go_sem, -List.getD_eq_getElem?_getD, ite_yes, ht, htp])⟩
                simp -dsimp -implicitDefEqProofs (disch := omega) [go_sem, -List.getD_eq_getElem?_getD, ite_yes, htp]
                exact ⟨wl_net htp, .inl ⟨by simp [vlE], by simp [vlE, flat]⟩⟩
            · as_aux_lemma =>
                simp -dsimp -implicitDefEqProofs (disch := omega) [go_sem, -List.getD_eq_getElem?_getD, ite_yes, F]
                refine AAt.of (SubH.setN) ?_
                refine AAny.takes (fuel := 11) (by kernel_rfl) (by kernel_rfl) [17, 18, 19] (by kernel_rfl) (by kernel_rfl) ?_
                simp -dsimp -implicitDefEqProofs (disch := omega) [go_sem, -List.getD_eq_getElem?_getD, ite_yes, F]
                refine AAny.two 10 3 20 (by kernel_rfl) (by kernel_rfl) (by kernel_rfl) ?_ ?_
                · simp -dsimp -implicitDefEqProofs (disch := omega) [go_sem, -List.getD_eq_getElem?_getD, ite_yes, F]
                  refine AAt.of (SubH.setN) ?_
                  refine AAny.takes (fuel := 7) (by kernel_rfl) (by kernel_rfl) [5, 6, 7] (by kernel_rfl) (by kernel_rfl) ?_
                  simp -dsimp -implicitDefEqProofs (disch := omega) [go_sem, -List.getD_eq_getElem?_getD, ite_yes, F]
                  refine AAny.one1 6 20 ?_
                  simp -dsimp -implicitDefEqProofs (disch := omega) [go_sem, -List.getD_eq_getElem?_getD, ite_yes, F]
                  refine AAt.of (SubH.setN) ?_
                  refine AAny.takes (fuel := 5) (by kernel_rfl) (by kernel_rfl) [22] (by kernel_rfl) (by kernel_rfl) ?_
                  simp -dsimp -implicitDefEqProofs (disch := omega) [go_sem, -List.getD_eq_getElem?_getD, ite_yes, F]
                  refine AAny.one1 4 23 ?_
                  simp -dsimp -implicitDefEqProofs (disch := omega) [go_sem, -List.getD_eq_getElem?_getD, ite_yes, F]
                  refine AAt.of (SubH.setN) ?_
                  refine AAny.one1 3 26 ?_
                  simp -dsimp -implicitDefEqProofs (disch := omega) [go_sem, -List.getD_eq_getElem?_getD, ite_yes, F]
                  refine AAt.of (SubH.setN) ?_
                  refine AAny.one1 2 27 ?_
                  simp -dsimp -implicitDefEqProofs (disch := omega) [go_sem, -List.getD_eq_getElem?_getD, ite_yes, F]
                  refine AAt.of (SubH.setN) ?_
                  refine AAny.one1 1 28 ?_
                  simp -dsimp -implicitDefEqProofs (disch := omega) [go_sem, -List.getD_eq_getElem?_getD, ite_yes, F]
                  first | refine AAt.of (SubH.setN) ?_ | (refine ⟨?_, AAt.of (SubH.setN) ?_⟩; · omega)
                  refine AAny.takes (fuel := 0) (by kernel_rfl) (by kernel_rfl) [29] (by kernel_rfl) (by kernel_rfl) ?_
                  simp -dsimp -implicitDefEqProofs (disch := omega) [go_sem, -List.getD_eq_getElem?_getD, ite_yes, F]
                  refine AAny.done (by kernel_rfl) ?_
                  simp -dsimp -implicitDefEqProofs (disch := omega) [go_sem, -List.getD_eq_getElem?_getD, ite_yes, F]
                  refine ⟨_, _, ⟨(d + 1 + r, p.1, z, b), a7, s7, rfl, by omega, by omega, rfl⟩, weakS_sets [some 0, some 4] rfl ht (h.wms _ _ _ _) ?_ (by simp -dsimp -implicitDefEqProofs (disch := omega) [go_sem, -List.getD_eq_getElem?_getD, ite_yes, ht, htp])⟩
                  simp -dsimp -implicitDefEqProofs (disch := omega) [go_sem, -List.getD_eq_getElem?_getD, ite_yes, htp]
                  exact ⟨wl_net htp, .inl ⟨by simp [vlE], by simp [vlE, flat]⟩⟩
                · simp -dsimp -implicitDefEqProofs (disch := omega) [go_sem, -List.getD_eq_getElem?_getD, ite_yes, F]
                  refine AAt.of (SubH.setN) ?_
                  refine AAny.takes (fuel := 9) (by kernel_rfl) (by kernel_rfl) [22] (by kernel_rfl) (by kernel_rfl) ?_
                  simp -dsimp -implicitDefEqProofs (disch := omega) [go_sem, -List.getD_eq_getElem?_getD, ite_yes, F]
                  refine AAny.two 8 3 23 (by kernel_rfl) (by kernel_rfl) (by kernel_rfl) ?_ ?_
                  · simp -dsimp -implicitDefEqProofs (disch := omega) [go_sem, -List.getD_eq_getElem?_getD, ite_yes, F]
                    refine AAt.of (SubH.setN) ?_
                    refine AAny.takes (fuel := 5) (by kernel_rfl) (by kernel_rfl) [5, 6, 7] (by kernel_rfl) (by kernel_rfl) ?_
                    simp -dsimp -implicitDefEqProofs (disch := omega) [go_sem, -List.getD_eq_getElem?_getD, ite_yes, F]
                    refine AAny.one1 4 23 ?_
                    simp -dsimp -implicitDefEqProofs (disch := omega) [go_sem, -List.getD_eq_getElem?_getD, ite_yes, F]
                    refine AAt.of (SubH.setN) ?_
                    refine AAny.one1 3 26 ?_
                    simp -dsimp -implicitDefEqProofs (disch := omega) [go_sem, -List.getD_eq_getElem?_getD, ite_yes, F]
                    refine AAt.of (SubH.setN) ?_
                    refine AAny.one1 2 27 ?_
                    simp -dsimp -implicitDefEqProofs (disch := omega) [go_sem, -List.getD_eq_getElem?_getD, ite_yes, F]
                    refine AAt.of (SubH.setN) ?_
                    refine AAny.one1 1 28 ?_
                    simp -dsimp -implicitDefEqProofs (disch := omega) [go_sem, -List.getD_eq_getElem?_getD, ite_yes, F]
                    first | refine AAt.of (SubH.setN) ?_ | (refine ⟨?_, AAt.of (SubH.setN) ?_⟩; · omega)
                    refine AAny.takes (fuel := 0) (by kernel_rfl) (by kernel_rfl) [29] (by kernel_rfl) (by kernel_rfl) ?_
                    simp -dsimp -implicitDefEqProofs (disch := omega) [go_sem, -List.getD_eq_getElem?_getD, ite_yes, F]
                    refine AAny.done (by kernel_rfl) ?_
                    simp -dsimp -implicitDefEqProofs (disch := omega) [go_sem, -List.getD_eq_getElem?_getD, ite_yes, F]
                    refine ⟨_, _, ⟨(d + 1 + r, p.1, z, b), a7, s7, rfl, by omega, by omega, rfl⟩, weakS_sets [some 0, some 4] rfl ht (h.wms _ _ _ _) ?_ (by simp -dsimp -implicitDefEqProofs (disch := omega) [go_sem, -List.getD_eq_getElem?_getD, ite_yes, ht, htp])⟩
                    simp -dsimp -implicitDefEqProofs (disch := omega) [go_sem, -List.getD_eq_getElem?_getD, ite_yes, htp]
                    exact ⟨wl_net htp, .inl ⟨by simp [vlE], by simp [vlE, flat]⟩⟩
                  · simp -dsimp -implicitDefEqProofs (disch := omega) [go_sem, -List.getD_eq_getElem?_getD, ite_yes, F]
                    refine AAt.of (SubH.setN) ?_
                    refine AAny.one1 7 3 ?_
                    simp -dsimp -implicitDefEqProofs (disch := omega) [go_sem, -List.getD_eq_getElem?_getD, ite_yes, F]
                    refine AAt.of (SubH.setN) ?_
                    refine AAny.takes (fuel := 4) (by kernel_rfl) (by kernel_rfl) [5, 6, 7] (by kernel_rfl) (by kernel_rfl) ?_
                    simp -dsimp -implicitDefEqProofs (disch := omega) [go_sem, -List.getD_eq_getElem?_getD, ite_yes, F]
                    refine AAny.one1 3 26 ?_
                    simp -dsimp -implicitDefEqProofs (disch := omega) [go_sem, -List.getD_eq_getElem?_getD, ite_yes, F]
                    refine AAt.of (SubH.setN) ?_
                    refine AAny.one1 2 27 ?_
                    simp -dsimp -implicitDefEqProofs (disch := omega) [go_sem, -List.getD_eq_getElem?_getD, ite_yes, F]
                    refine AAt.of (SubH.setN) ?_
                    refine AAny.one1 1 28 ?_
                    simp -dsimp -implicitDefEqProofs (disch := omega) [go_sem, -List.getD_eq_getElem?_getD, ite_yes, F]
                    first | refine AAt.of (SubH.setN) ?_ | (refine ⟨?_, AAt.of (SubH.setN) ?_⟩; · omega)
                    refine AAny.takes (fuel := 0) (by kernel_rfl) (by kernel_rfl) [29] (by kernel_rfl) (by kernel_rfl) ?_
                    simp -dsimp -implicitDefEqProofs (disch := omega) [go_sem, -List.getD_eq_getElem?_getD, ite_yes, F]
                    refine AAny.done (by kernel_rfl) ?_
                    simp -dsimp -implicitDefEqProofs (disch := omega) [go_sem, -List.getD_eq_getElem?_getD, ite_yes, F]
                    refine ⟨_, _, ⟨(d + 1 + r, p.1, z, b), a7, s7, rfl, by omega, by omega, rfl⟩, weakS_sets [some 0, some 4] rfl ht (h.wms _ _ _ _) ?_ (by simp -dsimp -implicitDefEqProofs (disch := omega) [go_sem, -List.getD_eq_getElem?_getD, ite_yes, ht, htp])⟩
                    simp -dsimp -implicitDefEqProofs (disch := omega) [go_sem, -List.getD_eq_getElem?_getD, ite_yes, htp]
                    exact ⟨wl_net htp, .inl ⟨by simp [vlE], by simp [vlE, flat]⟩⟩
    · as_aux_lemma =>
        simp -dsimp -implicitDefEqProofs (disch := omega) [go_sem, -List.getD_eq_getElem?_getD, ite_yes, F]
        refine AAt.of (SubH.setN) ?_
        refine AAny.takes (fuel := 16) (by kernel_rfl) (by kernel_rfl) [17, 18, 19] (by kernel_rfl) (by kernel_rfl) ?_
        simp -dsimp -implicitDefEqProofs (disch := omega) [go_sem, -List.getD_eq_getElem?_getD, ite_yes, F]
        refine AAny.three 15 3 9 25 (by kernel_rfl) (by kernel_rfl) (by kernel_rfl) ?_ ?_ ?_
        · as_aux_lemma =>
            simp -dsimp -implicitDefEqProofs (disch := omega) [go_sem, -List.getD_eq_getElem?_getD, ite_yes, F]
            refine AAt.of (SubH.setN) ?_
            refine AAny.takes (fuel := 12) (by kernel_rfl) (by kernel_rfl) [5, 6, 7] (by kernel_rfl) (by kernel_rfl) ?_
            simp -dsimp -implicitDefEqProofs (disch := omega) [go_sem, -List.getD_eq_getElem?_getD, ite_yes, F]
            refine AAny.two 11 9 25 (by kernel_rfl) (by kernel_rfl) (by kernel_rfl) ?_ ?_
            · as_aux_lemma =>
                simp -dsimp -implicitDefEqProofs (disch := omega) [go_sem, -List.getD_eq_getElem?_getD, ite_yes, F]
                refine AAt.of (SubH.setN) ?_
                refine AAny.takes (fuel := 8) (by kernel_rfl) (by kernel_rfl) [11, 12, 13] (by kernel_rfl) (by kernel_rfl) ?_
                simp -dsimp -implicitDefEqProofs (disch := omega) [go_sem, -List.getD_eq_getElem?_getD, ite_yes, F]
                refine AAny.two 7 20 25 (by kernel_rfl) (by kernel_rfl) (by kernel_rfl) ?_ ?_
                · simp -dsimp -implicitDefEqProofs (disch := omega) [go_sem, -List.getD_eq_getElem?_getD, ite_yes, F]
                  refine AAt.of (SubH.setN) ?_
                  refine AAny.takes (fuel := 6) (by kernel_rfl) (by kernel_rfl) [22] (by kernel_rfl) (by kernel_rfl) ?_
                  simp -dsimp -implicitDefEqProofs (disch := omega) [go_sem, -List.getD_eq_getElem?_getD, ite_yes, F]
                  refine AAny.two 5 23 25 (by kernel_rfl) (by kernel_rfl) (by kernel_rfl) ?_ ?_
                  · simp -dsimp -implicitDefEqProofs (disch := omega) [go_sem, -List.getD_eq_getElem?_getD, ite_yes, F]
                    refine AAt.of (SubH.setN) ?_
                    refine AAny.one1 4 25 ?_
                    simp -dsimp -implicitDefEqProofs (disch := omega) [go_sem, -List.getD_eq_getElem?_getD, ite_yes, F]
                    refine ACall.via (one_R ((h.step (by omega)).app _) (by omega) 3 (by omega)) ?_
                    rintro _ _ ⟨b, rfl, a7, s7, q7, q7', rfl⟩
                    simp -dsimp -implicitDefEqProofs (disch := omega) [go_sem, -List.getD_eq_getElem?_getD, ite_yes, F]
                    refine AAt.of (SubH.setN) ?_
                    refine AAny.one1 3 26 ?_
                    simp -dsimp -implicitDefEqProofs (disch := omega) [go_sem, -List.getD_eq_getElem?_getD, ite_yes, F]
                    refine AAt.of (SubH.setN) ?_
                    refine AAny.one1 2 27 ?_
                    simp -dsimp -implicitDefEqProofs (disch := omega) [go_sem, -List.getD_eq_getElem?_getD, ite_yes, F]
                    refine AAt.of (SubH.setN) ?_
                    refine AAny.one1 1 28 ?_
                    simp -dsimp -implicitDefEqProofs (disch := omega) [go_sem, -List.getD_eq_getElem?_getD, ite_yes, F]
                    first | refine AAt.of (SubH.setN) ?_ | (refine ⟨?_, AAt.of (SubH.setN) ?_⟩; · omega)
                    refine AAny.takes (fuel := 0) (by kernel_rfl) (by kernel_rfl) [29] (by kernel_rfl) (by kernel_rfl) ?_
                    simp -dsimp -implicitDefEqProofs (disch := omega) [go_sem, -List.getD_eq_getElem?_getD, ite_yes, F]
                    refine AAny.done (by kernel_rfl) ?_
                    simp -dsimp -implicitDefEqProofs (disch := omega) [go_sem, -List.getD_eq_getElem?_getD, ite_yes, F]
                    refine ⟨_, _, ⟨(d + 1 + r, p.1, z, b), a7, s7, rfl, by omega, by omega, rfl⟩, weakS_sets [some 0, some 4] rfl ht (h.wms _ _ _ _) ?_ (by simp -dsimp -implicitDefEqProofs (disch := omega) [go_sem, -List.getD_eq_getElem?_getD, ite_yes, ht, htp])⟩
                    simp -dsimp -implicitDefEqProofs (disch := omega) [go_sem, -List.getD_eq_getElem?_getD, ite_yes, htp]
                    exact ⟨wl_net htp, .inl ⟨by simp [vlE], by simp [vlE, flat]⟩⟩
                  · simp -dsimp -implicitDefEqProofs (disch := omega) [go_sem, -List.getD_eq_getElem?_getD, ite_yes, F]
                    refine ACall.via (one_R ((h.step (by omega)).app _) (by omega) 3 (by omega)) ?_
                    rintro _ _ ⟨b, rfl, a7, s7, q7, q7', rfl⟩
                    simp -dsimp -implicitDefEqProofs (disch := omega) [go_sem, -List.getD_eq_getElem?_getD, ite_yes, F]
                    refine AAt.of (SubH.setN) ?_
                    refine AAny.one1 4 23 ?_
                    simp -dsimp -implicitDefEqProofs (disch := omega) [go_sem, -List.getD_eq_getElem?_getD, ite_yes, F]
                    refine AAt.of (SubH.setN) ?_
                    refine AAny.one1 3 26 ?_
                    simp -dsimp -implicitDefEqProofs (disch := omega) [go_sem, -List.getD_eq_getElem?_getD, ite_yes, F]
                    refine AAt.of (SubH.setN) ?_
                    refine AAny.one1 2 27 ?_
                    simp -dsimp -implicitDefEqProofs (disch := omega) [go_sem, -List.getD_eq_getElem?_getD, ite_yes, F]
                    refine AAt.of (SubH.setN) ?_
                    refine AAny.one1 1 28 ?_
                    simp -dsimp -implicitDefEqProofs (disch := omega) [go_sem, -List.getD_eq_getElem?_getD, ite_yes, F]
                    first | refine AAt.of (SubH.setN) ?_ | (refine ⟨?_, AAt.of (SubH.setN) ?_⟩; · omega)
                    refine AAny.takes (fuel := 0) (by kernel_rfl) (by kernel_rfl) [29] (by kernel_rfl) (by kernel_rfl) ?_
                    simp -dsimp -implicitDefEqProofs (disch := omega) [go_sem, -List.getD_eq_getElem?_getD, ite_yes, F]
                    refine AAny.done (by kernel_rfl) ?_
                    simp -dsimp -implicitDefEqProofs (disch := omega) [go_sem, -List.getD_eq_getElem?_getD, ite_yes, F]
                    refine ⟨_, _, ⟨(d + 1 + r, p.1, z, b), a7, s7, rfl, by omega, by omega, rfl⟩, weakS_sets [some 0, some 4] rfl ht (h.wms _ _ _ _) ?_ (by simp -dsimp -implicitDefEqProofs (disch := omega) [go_sem, -List.getD_eq_getElem?_getD, ite_yes, ht, htp])⟩
                    simp -dsimp -implicitDefEqProofs (disch := omega) [go_sem, -List.getD_eq_getElem?_getD, ite_yes, htp]
                    exact ⟨wl_net htp, .inl ⟨by simp [vlE], by simp [vlE, flat]⟩⟩
                · simp -dsimp -implicitDefEqProofs (disch := omega) [go_sem, -List.getD_eq_getElem?_getD, ite_yes, F]
                  refine ACall.via (one_R ((h.step (by omega)).app _) (by omega) 3 (by omega)) ?_
                  rintro _ _ ⟨b, rfl, a7, s7, q7, q7', rfl⟩
                  simp -dsimp -implicitDefEqProofs (disch := omega) [go_sem, -List.getD_eq_getElem?_getD, ite_yes, F]
                  refine AAt.of (SubH.setN) ?_
                  refine AAny.one1 6 20 ?_
                  simp -dsimp -implicitDefEqProofs (disch := omega) [go_sem, -List.getD_eq_getElem?_getD, ite_yes, F]
                  refine AAt.of (SubH.setN) ?_
                  refine AAny.takes (fuel := 5) (by kernel_rfl) (by kernel_rfl) [22] (by kernel_rfl) (by kernel_rfl) ?_
                  simp -dsimp -implicitDefEqProofs (disch := omega) [go_sem, -List.getD_eq_getElem?_getD, ite_yes, F]
                  refine AAny.one1 4 23 ?_
                  simp -dsimp -implicitDefEqProofs (disch := omega) [go_sem, -List.getD_eq_getElem?_getD, ite_yes, F]
                  refine AAt.of (SubH.setN) ?_
                  refine AAny.one1 3 26 ?_
                  simp -dsimp -implicitDefEqProofs (disch := omega) [go_sem, -List.getD_eq_getElem?_getD, ite_yes, F]
                  refine AAt.of (SubH.setN) ?_
                  refine AAny.one1 2 27 ?_
                  simp -dsimp -implicitDefEqProofs (disch := omega) [go_sem, -List.getD_eq_getElem?_getD, ite_yes, F]
                  refine AAt.of (SubH.setN) ?_
                  refine AAny.one1 1 28 ?_
                  simp -dsimp -implicitDefEqProofs (disch := omega) [go_sem, -List.getD_eq_getElem?_getD, ite_yes, F]
                  first | refine AAt.of (SubH.setN) ?_ | (refine ⟨?_, AAt.of (SubH.setN) ?_⟩; · omega)
                  refine AAny.takes (fuel := 0) (by kernel_rfl) (by kernel_rfl) [29] (by kernel_rfl) (by kernel_rfl) ?_
                  simp -dsimp -implicitDefEqProofs (disch := omega) [go_sem, -List.getD_eq_getElem?_getD, ite_yes, F]
                  refine AAny.done (by kernel_rfl) ?_
                  simp -dsimp -implicitDefEqProofs (disch := omega) [go_sem, -List.getD_eq_getElem?_getD, ite_yes, F]
                  refine ⟨_, _, ⟨(d + 1 + r, p.1, z, b), a7, s7, rfl, by omega, by omega, rfl⟩, weakS_sets [some 0, some 4] rfl ht (h.wms _ _ _ _) ?_ (by simp -dsimp -implicitDefEqProofs (disch := omega) [go_sem, -List.getD_eq_getElem?_getD, ite_yes, ht, htp])⟩
                  simp -dsimp -implicitDefEqProofs (disch := omega) [go_sem, -List.getD_eq_getElem?_getD, ite_yes, htp]
                  exact ⟨wl_net htp, .inl ⟨by simp [vlE], by simp [vlE, flat]⟩⟩
            · as_aux_lemma =>
                simp -dsimp -implicitDefEqProofs (disch := omega) [go_sem, -List.getD_eq_getElem?_getD, ite_yes, F]
                refine ACall.via (one_R ((h.step (by omega)).app _) (by omega) 3 (by omega)) ?_
                rintro _ _ ⟨b, rfl, a7, s7, q7, q7', rfl⟩
                simp -dsimp -implicitDefEqProofs (disch := omega) [go_sem, -List.getD_eq_getElem?_getD, ite_yes, F]
                refine AAt.of (SubH.setN) ?_
                refine AAny.one1 10 9 ?_
                simp -dsimp -implicitDefEqProofs (disch := omega) [go_sem, -List.getD_eq_getElem?_getD, ite_yes, F]
                refine AAt.of (SubH.setN) ?_
                refine AAny.takes (fuel := 7) (by kernel_rfl) (by kernel_rfl) [11, 12, 13] (by kernel_rfl) (by kernel_rfl) ?_
                simp -dsimp -implicitDefEqProofs (disch := omega) [go_sem, -List.getD_eq_getElem?_getD, ite_yes, F]
                refine AAny.one1 6 20 ?_
                simp -dsimp -implicitDefEqProofs (disch := omega) [go_sem, -List.getD_eq_getElem?_getD, ite_yes, F]
                refine AAt.of (SubH.setN) ?_
                refine AAny.takes (fuel := 5) (by kernel_rfl) (by kernel_rfl) [22] (by kernel_rfl) (by kernel_rfl) ?_
                simp -dsimp -implicitDefEqProofs (disch := omega) [go_sem, -List.getD_eq_getElem?_getD, ite_yes, F]
                refine AAny.one1 4 23 ?_
                simp -dsimp -implicitDefEqProofs (disch := omega) [go_sem, -List.getD_eq_getElem?_getD, ite_yes, F]
                refine AAt.of (SubH.setN) ?_
                refine AAny.one1 3 26 ?_
                simp -dsimp -implicitDefEqProofs (disch := omega) [go_sem, -List.getD_eq_getElem?_getD, ite_yes, F]
                refine AAt.of (SubH.setN) ?_
                refine AAny.one1 2 27 ?_
                simp -dsimp -implicitDefEqProofs (disch := omega) [go_sem, -List.getD_eq_getElem?_getD, ite_yes, F]
                refine AAt.of (SubH.setN) ?_
                refine AAny.one1 1 28 ?_
                simp -dsimp -implicitDefEqProofs (disch := omega) [go_sem, -List.getD_eq_getElem?_getD, ite_yes, F]
                first | refine AAt.of (SubH.setN) ?_ | (refine ⟨?_, AAt.of (SubH.setN) ?_⟩; · omega)
                refine AAny.takes (fuel := 0) (by kernel_rfl) (by kernel_rfl) [29] (by kernel_rfl) (by kernel_rfl) ?_
                simp -dsimp -implicitDefEqProofs (disch := omega) [go_sem, -List.getD_eq_getElem?_getD, ite_yes, F]
                refine AAny.done (by kernel_rfl) ?_
                simp -dsimp -implicitDefEqProofs (disch := omega) [go_sem, -List.getD_eq_getElem?_getD, ite_yes, F]
                refine ⟨_, _, ⟨(d + 1 + r, p.1, z, b), a7, s7, rfl, by omega, by omega, rfl⟩, weakS_sets [some 0, some 4] rfl ht (h.wms _ _ _ _) ?_ (by simp -dsimp -implicitDefEqProofs (disch := omega) [go_sem, -List.getD_eq_getElem?_getD, ite_yes, ht, htp])⟩
                simp -dsimp -implicitDefEqProofs (disch := omega) [go_sem, -List.getD_eq_getElem?_getD, ite_yes, htp]
                exact ⟨wl_net htp, .inl ⟨by simp [vlE], by simp [vlE, flat]⟩⟩
        · as_aux_lemma =>
            simp -dsimp -implicitDefEqProofs (disch := omega) [go_sem, -List.getD_eq_getElem?_getD, ite_yes, F]
            refine AAt.of (SubH.setN) ?_
            refine AAny.takes (fuel := 12) (by kernel_rfl) (by kernel_rfl) [11, 12, 13] (by kernel_rfl) (by kernel_rfl) ?_
            simp -dsimp -implicitDefEqProofs (disch := omega) [go_sem, -List.getD_eq_getElem?_getD, ite_yes, F]
            refine AAny.three 11 3 20 25 (by kernel_rfl) (by kernel_rfl) (by kernel_rfl) ?_ ?_ ?_
            · as_aux_lemma =>
                simp -dsimp -implicitDefEqProofs (disch := omega) [go_sem, -List.getD_eq_getElem?_getD, ite_yes, F]
                refine AAt.of (SubH.setN) ?_
                refine AAny.takes (fuel := 8) (by kernel_rfl) (by kernel_rfl) [5, 6, 7] (by kernel_rfl) (by kernel_rfl) ?_
                simp -dsimp -implicitDefEqProofs (disch := omega) [go_sem, -List.getD_eq_getElem?_getD, ite_yes, F]
                refine AAny.two 7 20 25 (by kernel_rfl) (by kernel_rfl) (by kernel_rfl) ?_ ?_
                · simp -dsimp -implicitDefEqProofs (disch := omega) [go_sem, -List.getD_eq_getElem?_getD, ite_yes, F]
                  refine AAt.of (SubH.setN) ?_
                  refine AAny.takes (fuel := 6) (by kernel_rfl) (by kernel_rfl) [22] (by kernel_rfl) (by kernel_rfl) ?_
                  simp -dsimp -implicitDefEqProofs (disch := omega) [go_sem, -List.getD_eq_getElem?_getD, ite_yes, F]
                  refine AAny.two 5 23 25 (by kernel_rfl) (by kernel_rfl) (by kernel_rfl) ?_ ?_
                  · simp -dsimp -implicitDefEqProofs (disch := omega) [go_sem, -List.getD_eq_getElem?_getD, ite_yes, F]
                    refine AAt.of (SubH.setN) ?_
                    refine AAny.one1 4 25 ?_
                    simp -dsimp -implicitDefEqProofs (disch := omega) [go_sem, -List.getD_eq_getElem?_getD, ite_yes, F]
                    refine ACall.via (one_R ((h.step (by omega)).app _) (by omega) 3 (by omega)) ?_
                    rintro _ _ ⟨b, rfl, a7, s7, q7, q7', rfl⟩
                    simp -dsimp -implicitDefEqProofs (disch := omega) [go_sem, -List.getD_eq_getElem?_getD, ite_yes, F]
                    refine AAt.of (SubH.setN) ?_
                    refine AAny.one1 3 26 ?_
                    simp -dsimp -implicitDefEqProofs (disch := omega) [go_sem, -List.getD_eq_getElem?_getD, ite_yes, F]
                    refine AAt.of (SubH.setN) ?_
                    refine AAny.one1 2 27 ?_
                    simp -dsimp -implicitDefEqProofs (disch := omega) [go_sem, -List.getD_eq_getElem?_getD, ite_yes, F]
                    refine AAt.of (SubH.setN) ?_
                    refine AAny.one1 1 28 ?_
                    simp -dsimp -implicitDefEqProofs (disch := omega) [go_sem, -List.getD_eq_getElem?_getD, ite_yes, F]
                    first | refine AAt.of (SubH.setN) ?_ | (refine ⟨?_, AAt.of (SubH.setN) ?_⟩; · omega)
                    refine AAny.takes (fuel := 0) (by kernel_rfl) (by kernel_rfl) [29] (by kernel_rfl) (by kernel_rfl) ?_
                    simp -dsimp -implicitDefEqProofs (disch := omega) [go_sem, -List.getD_eq_getElem?_getD, ite_yes, F]
                    refine AAny.done (by kernel_rfl) ?_
                    simp -dsimp -implicitDefEqProofs (disch := omega) [go_sem, -List.getD_eq_getElem?_getD, ite_yes, F]
                    refine ⟨_, _, ⟨(d + 1 + r, p.1, z, b), a7, s7, rfl, by omega, by omega, rfl⟩, weakS_sets [some 0, some 4] rfl ht (h.wms _ _ _ _) ?_ (by simp -dsimp -implicitDefEqProofs (disch := omega) [go_sem, -List.getD_eq_getElem?_getD, ite_yes, ht, htp])⟩
                    simp -dsimp -implicitDefEqProofs (disch := omega) [go_sem, -List.getD_eq_getElem?_getD, ite_yes, htp]
                    exact ⟨wl_net htp, .inl ⟨by simp [vlE], by simp [vlE, flat]⟩⟩
                  · simp -dsimp -implicitDefEqProofs (disch := omega) [go_sem, -List.getD_eq_getElem?_getD, ite_yes, F]
                    refine ACall.via (one_R ((h.step (by omega)).app _) (by omega) 3 (by omega)) ?_
                    rintro _ _ ⟨b, rfl, a7, s7, q7, q7', rfl⟩
                    simp -dsimp -implicitDefEqProofs (disch := omega) [go_sem, -List.getD_eq_getElem?_getD, ite_yes, F]
                    refine AAt.of (SubH.setN) ?_
                    refine AAny.one1 4 23 ?_
                    simp -dsimp -implicitDefEqProofs (disch := omega) [go_sem, -List.getD_eq_getElem?_getD, ite_yes, F]
                    refine AAt.of (SubH.setN) ?_
                    refine AAny.one1 3 26 ?_
                    simp -dsimp -implicitDefEqProofs (disch := omega) [go_sem, -List.getD_eq_getElem?_getD, ite_yes, F]
                    refine AAt.of (SubH.setN) ?_
                    refine AAny.one1 2 27 ?_
                    simp -dsimp -implicitDefEqProofs (disch := omega) [go_sem, -List.getD_eq_getElem?_getD, ite_yes, F]
                    refine AAt.of (SubH.setN) ?_
                    refine AAny.one1 1 28 ?_
                    simp -dsimp -implicitDefEqProofs (disch := omega) [go_sem, -List.getD_eq_getElem?_getD, ite_yes, F]
                    first | refine AAt.of (SubH.setN) ?_ | (refine ⟨?_, AAt.of (SubH.setN) ?_⟩; · omega)
                    refine AAny.takes (fuel := 0) (by kernel_rfl) (by kernel_rfl) [29] (by kernel_rfl) (by kernel_rfl) ?_
                    simp -dsimp -implicitDefEqProofs (disch := omega) [go_sem, -List.getD_eq_getElem?_getD, ite_yes, F]
                    refine AAny.done (by kernel_rfl) ?_
                    simp -dsimp -implicitDefEqProofs (disch := omega) [go_sem, -List.getD_eq_getElem?_getD, ite_yes, F]
                    refine ⟨_, _, ⟨(d + 1 + r, p.1, z, b), a7, s7, rfl, by omega, by omega, rfl⟩, weakS_sets [some 0, some 4] rfl ht (h.wms _ _ _ _) ?_ (by simp -dsimp -implicitDefEqProofs (disch := omega) [go_sem, -List.getD_eq_getElem?_getD, ite_yes, ht, htp])⟩
                    simp -dsimp -implicitDefEqProofs (disch := omega) [go_sem, -List.getD_eq_getElem?_getD, ite_yes, htp]
                    exact ⟨wl_net htp, .inl ⟨by simp [vlE], by simp [vlE, flat]⟩⟩
                · simp -dsimp -implicitDefEqProofs (disch := omega) [go_sem, -List.getD_eq_getElem?_getD, ite_yes, F]
                  refine ACall.via (one_R ((h.step (by omega)).app _) (by omega) 3 (by omega)) ?_
                  rintro _ _ ⟨b, rfl, a7, s7, q7, q7', rfl⟩
                  simp -dsimp -implicitDefEqProofs (disch := omega) [go_sem, -List.getD_eq_getElem?_getD, ite_yes, F]
                  refine AAt.of (SubH.setN) ?_
                  refine AAny.one1 6 20 ?_
                  simp -dsimp -implicitDefEqProofs (disch := omega) [go_sem, -List.getD_eq_getElem?_getD, ite_yes, F]
                  refine AAt.of (SubH.setN) ?_
                  refine AAny.takes (fuel := 5) (by kernel_rfl) (by kernel_rfl) [22] (by kernel_rfl) (by kernel_rfl) ?_
                  simp -dsimp -implicitDefEqProofs (disch := omega) [go_sem, -List.getD_eq_getElem?_getD, ite_yes, F]
                  refine AAny.one1 4 23 ?_
                  simp -dsimp -implicitDefEqProofs (disch := omega) [go_sem, -List.getD_eq_getElem?_getD, ite_yes, F]
                  refine AAt.of (SubH.setN) ?_
                  refine AAny.one1 3 26 ?_
                  simp -dsimp -implicitDefEqProofs (disch := omega) [go_sem, -List.getD_eq_getElem?_getD, ite_yes, F]
                  refine AAt.of (SubH.setN) ?_
                  refine AAny.one1 2 27 ?_
                  simp -dsimp -implicitDefEqProofs (disch := omega) [go_sem, -List.getD_eq_getElem?_getD, ite_yes, F]
                  refine AAt.of (SubH.setN) ?_
                  refine AAny.one1 1 28 ?_
                  simp -dsimp -implicitDefEqProofs (disch := omega) [go_sem, -List.getD_eq_getElem?_getD, ite_yes, F]
                  first | refine AAt.of (SubH.setN) ?_ | (refine ⟨?_, AAt.of (SubH.setN) ?_⟩; · omega)
                  refine AAny.takes (fuel := 0) (by kernel_rfl) (by kernel_rfl) [29] (by kernel_rfl) (by kernel_rfl) ?_
                  simp -dsimp -implicitDefEqProofs (disch := omega) [go_sem, -List.getD_eq_getElem?_getD, ite_yes, F]
                  refine AAny.done (by kernel_rfl) ?_
                  simp -dsimp -implicitDefEqProofs (disch := omega) [go_sem, -List.getD_eq_getElem?_getD, ite_yes, F]
                  refine ⟨_, _, ⟨(d + 1 + r, p.1, z, b), a7, s7, rfl, by omega, by omega, rfl⟩, weakS_sets [some 0, some 4] rfl ht (h.wms _ _ _ _) ?_ (by simp -dsimp -implicitDefEqProofs (disch := omega) [go_sem, -List.getD_eq_getElem?_getD, ite_yes, ht, htp])⟩
                  simp -dsimp -implicitDefEqProofs (disch := omega) [go_sem, -List.getD_eq_getElem?_getD, ite_yes, htp]
                  exact ⟨wl_net htp, .inl ⟨by simp [vlE], by simp [vlE, flat]⟩⟩
            · as_aux_lemma =>
                simp -dsimp -implicitDefEqProofs (disch := omega) [go_sem, -List.getD_eq_getElem?_getD, ite_yes, F]
                refine AAt.of (SubH.setN) ?_
                refine AAny.takes (fuel := 10) (by kernel_rfl) (by kernel_rfl) [22] (by kernel_rfl) (by kernel_rfl) ?_
                simp -dsimp -implicitDefEqProofs (disch := omega) [go_sem, -List.getD_eq_getElem?_getD, ite_yes, F]
                refine AAny.three 9 3 23 25 (by kernel_rfl) (by kernel_rfl) (by kernel_rfl) ?_ ?_ ?_
                · simp -dsimp -implicitDefEqProofs (disch := omega) [go_sem, -List.getD_eq_getElem?_getD, ite_yes, F]
                  refine AAt.of (SubH.setN) ?_
                  refine AAny.takes (fuel := 6) (by kernel_rfl) (by kernel_rfl) [5, 6, 7] (by kernel_rfl) (by kernel_rfl) ?_
                  simp -dsimp -implicitDefEqProofs (disch := omega) [go_sem, -List.getD_eq_getElem?_getD, ite_yes, F]
                  refine AAny.two 5 23 25 (by kernel_rfl) (by kernel_rfl) (by kernel_rfl) ?_ ?_
                  · simp -dsimp -implicitDefEqProofs (disch := omega) [go_sem, -List.getD_eq_getElem?_getD, ite_yes, F]
                    refine AAt.of (SubH.setN) ?_
                    refine AAny.one1 4 25 ?_
                    simp -dsimp -implicitDefEqProofs (disch := omega) [go_sem, -List.getD_eq_getElem?_getD, ite_yes, F]
                    refine ACall.via (one_R ((h.step (by omega)).app _) (by omega) 3 (by omega)) ?_
                    rintro _ _ ⟨b, rfl, a7, s7, q7, q7', rfl⟩
                    simp -dsimp -implicitDefEqProofs (disch := omega) [go_sem, -List.getD_eq_getElem?_getD, ite_yes, F]
                    refine AAt.of (SubH.setN) ?_
                    refine AAny.one1 3 26 ?_
                    simp -dsimp -implicitDefEqProofs (disch := omega) [go_sem, -List.getD_eq_getElem?_getD, ite_yes, F]
                    refine AAt.of (SubH.setN) ?_
                    refine AAny.one1 2 27 ?_
                    simp -dsimp -implicitDefEqProofs (disch := omega) [go_sem, -List.getD_eq_getElem?_getD, ite_yes, F]
                    refine AAt.of (SubH.setN) ?_
                    refine AAny.one1 1 28 ?_
                    simp -dsimp -implicitDefEqProofs (disch := omega) [go_sem, -List.getD_eq_getElem?_getD, ite_yes, F]
                    first | refine AAt.of (SubH.setN) ?_ | (refine ⟨?_, AAt.of (SubH.setN) ?_⟩; · omega)
                    refine AAny.takes (fuel := 0) (by kernel_rfl) (by kernel_rfl) [29] (by kernel_rfl) (by kernel_rfl) ?_
                    simp -dsimp -implicitDefEqProofs (disch := omega) [go_sem, -List.getD_eq_getElem?_getD, ite_yes, F]
                    refine AAny.done (by kernel_rfl) ?_
                    simp -dsimp -implicitDefEqProofs (disch := omega) [go_sem, -List.getD_eq_getElem?_getD, ite_yes, F]
                    refine ⟨_, _, ⟨(d + 1 + r, p.1, z, b), a7, s7, rfl, by omega, by omega, rfl⟩, weakS_sets [some 0, some 4] rfl ht (h.wms _ _ _ _) ?_ (by simp -dsimp -implicitDefEqProofs (disch := omega) [go_sem, -List.getD_eq_getElem?_getD, ite_yes, ht, htp])⟩
                    simp -dsimp -implicitDefEqProofs (disch := omega) [go_sem, -List.getD_eq_getElem?_getD, ite_yes, htp]
                    exact ⟨wl_net htp, .inl ⟨by simp [vlE], by simp [vlE, flat]⟩⟩
                  · simp -dsimp -implicitDefEqProofs (disch := omega) [go_sem, -List.getD_eq_getElem?_getD, ite_yes, F]
                    refine ACall.via (one_R ((h.step (by omega)).app _) (by omega) 3 (by omega)) ?_
                    rintro _ _ ⟨b, rfl, a7, s7, q7, q7', rfl⟩
                    simp -dsimp -implicitDefEqProofs (disch := omega) [go_sem, -List.getD_eq_getElem?_getD, ite_yes, F]
                    refine AAt.of (SubH.setN) ?_
                    refine AAny.one1 4 23 ?_
                    simp -dsimp -implicitDefEqProofs (disch := omega) [go_sem, -List.getD_eq_getElem?_getD, ite_yes, F]
                    refine AAt.of (SubH.setN) ?_
                    refine AAny.one1 3 26 ?_
                    simp -dsimp -implicitDefEqProofs (disch := omega) [go_sem, -List.getD_eq_getElem?_getD, ite_yes, F]
                    refine AAt.of (SubH.setN) ?_
                    refine AAny.one1 2 27 ?_
                    simp -dsimp -implicitDefEqProofs (disch := omega) [go_sem, -List.getD_eq_getElem?_getD, ite_yes, F]
                    refine AAt.of (SubH.setN) ?_
                    refine AAny.one1 1 28 ?_
                    simp -dsimp -implicitDefEqProofs (disch := omega) [go_sem, -List.getD_eq_getElem?_getD, ite_yes, F]
                    first | refine AAt.of (SubH.setN) ?_ | (refine ⟨?_, AAt.of (SubH.setN) ?_⟩; · omega)
                    refine AAny.takes (fuel := 0) (by kernel_rfl) (by kernel_rfl) [29] (by kernel_rfl) (by kernel_rfl) ?_
                    simp -dsimp -implicitDefEqProofs (disch := omega) [go_sem, -List.getD_eq_getElem?_getD, ite_yes, F]
                    refine AAny.done (by kernel_rfl) ?_
                    simp -dsimp -implicitDefEqProofs (disch := omega) [go_sem, -List.getD_eq_getElem?_getD, ite_yes, F]
                    refine ⟨_, _, ⟨(d + 1 + r, p.1, z, b), a7, s7, rfl, by omega, by omega, rfl⟩, weakS_sets [some 0, some 4] rfl ht (h.wms _ _ _ _) ?_ (by simp -dsimp -implicitDefEqProofs (disch := omega) [go_sem, -List.getD_eq_getElem?_getD, ite_yes, ht, htp])⟩
                    simp -dsimp -implicitDefEqProofs (disch := omega) [go_sem, -List.getD_eq_getElem?_getD, ite_yes, htp]
                    exact ⟨wl_net htp, .inl ⟨by simp [vlE], by simp [vlE, flat]⟩⟩
                · simp -dsimp -implicitDefEqProofs (disch := omega) [go_sem, -List.getD_eq_getElem?_getD, ite_yes, F]
                  refine AAt.of (SubH.setN) ?_
                  refine AAny.two 8 3 25 (by kernel_rfl) (by kernel_rfl) (by kernel_rfl) ?_ ?_
                  · simp -dsimp -implicitDefEqProofs (disch := omega) [go_sem, -List.getD_eq_getElem?_getD, ite_yes, F]
                    refine AAt.of (SubH.setN) ?_
                    refine AAny.takes (fuel := 5) (by kernel_rfl) (by kernel_rfl) [5, 6, 7] (by kernel_rfl) (by kernel_rfl) ?_
                    simp -dsimp -implicitDefEqProofs (disch := omega) [go_sem, -List.getD_eq_getElem?_getD, ite_yes, F]
                    refine AAny.one1 4 25 ?_
                    simp -dsimp -implicitDefEqProofs (disch := omega) [go_sem, -List.getD_eq_getElem?_getD, ite_yes, F]
                    refine ACall.via (one_R ((h.step (by omega)).app _) (by omega) 3 (by omega)) ?_
                    rintro _ _ ⟨b, rfl, a7, s7, q7, q7', rfl⟩
                    simp -dsimp -implicitDefEqProofs (disch := omega) [go_sem, -List.getD_eq_getElem?_getD, ite_yes, F]
                    refine AAt.of (SubH.setN) ?_
                    refine AAny.one1 3 26 ?_
                    simp -dsimp -implicitDefEqProofs (disch := omega) [go_sem, -List.getD_eq_getElem?_getD, ite_yes, F]
                    refine AAt.of (SubH.setN) ?_
                    refine AAny.one1 2 27 ?_
                    simp -dsimp -implicitDefEqProofs (disch := omega) [go_sem, -List.getD_eq_getElem?_getD, ite_yes, F]
                    refine AAt.of (SubH.setN) ?_
                    refine AAny.one1 1 28 ?_
                    simp -dsimp -implicitDefEqProofs (disch := omega) [go_sem, -List.getD_eq_getElem?_getD, ite_yes, F]
                    first | refine AAt.of (SubH.setN) ?_ | (refine ⟨?_, AAt.of (SubH.setN) ?_⟩; · omega)
                    refine AAny.takes (fuel := 0) (by kernel_rfl) (by kernel_rfl) [29] (by kernel_rfl) (by kernel_rfl) ?_
                    simp -dsimp -implicitDefEqProofs (disch := omega) [go_sem, -List.getD_eq_getElem?_getD, ite_yes, F]
                    refine AAny.done (by kernel_rfl) ?_
                    simp -dsimp -implicitDefEqProofs (disch := omega) [go_sem, -List.getD_eq_getElem?_getD, ite_yes, F]
                    refine ⟨_, _, ⟨(d + 1 + r, p.1, z, b), a7, s7, rfl, by omega, by omega, rfl⟩, weakS_sets [some 0, some 4] rfl ht (h.wms _ _ _ _) ?_ (by simp -dsimp -implicitDefEqProofs (disch := omega) [go_sem, -List.getD_eq_getElem?_getD, ite_yes, ht, htp])⟩
                    simp -dsimp -implicitDefEqProofs (disch := omega) [go_sem, -List.getD_eq_getElem?_getD, ite_yes, htp]
                    exact ⟨wl_net htp, .inl ⟨by simp [vlE], by simp [vlE, flat]⟩⟩
                  · simp -dsimp -implicitDefEqProofs (disch := omega) [go_sem, -List.getD_eq_getElem?_getD, ite_yes, F]
                    refine ACall.via (one_R ((h.step (by omega)).app _) (by omega) 3 (by omega)) ?_
                    rintro _ _ ⟨b, rfl, a7, s7, q7, q7', rfl⟩
                    simp -dsimp -implicitDefEqProofs (disch := omega) [go_sem, -List.getD_eq_getElem?_getD, ite_yes, F]
                    refine AAt.of (SubH.setN) ?_
                    refine AAny.one1 7 3 ?_
                    simp -dsimp -implicitDefEqProofs (disch := omega) [go_sem, -List.getD_eq_getElem?_getD, ite_yes, F]
                    refine AAt.of (SubH.setN) ?_
                    refine AAny.takes (fuel := 4) (by kernel_rfl) (by kernel_rfl) [5, 6, 7] (by kernel_rfl) (by kernel_rfl) ?_
                    simp -dsimp -implicitDefEqProofs (disch := omega) [go_sem, -List.getD_eq_getElem?_getD, ite_yes, F]
                    refine AAny.one1 3 26 ?_
                    simp -dsimp -implicitDefEqProofs (disch := omega) [go_sem, -List.getD_eq_getElem?_getD, ite_yes, F]
                    refine AAt.of (SubH.setN) ?_
                    refine AAny.one1 2 27 ?_
                    simp -dsimp -implicitDefEqProofs (disch := omega) [go_sem, -List.getD_eq_getElem?_getD, ite_yes, F]
                    refine AAt.of (SubH.setN) ?_
                    refine AAny.one1 1 28 ?_
                    simp -dsimp -implicitDefEqProofs (disch := omega) [go_sem, -List.getD_eq_getElem?_getD, ite_yes, F]
                    first | refine AAt.of (SubH.setN) ?_ | (refine ⟨?_, AAt.of (SubH.setN) ?_⟩; · omega)
                    refine AAny.takes (fuel := 0) (by kernel_rfl) (by kernel_rfl) [29] (by kernel_rfl) (by kernel_rfl) ?_
                    simp -dsimp -implicitDefEqProofs (disch := omega) [go_sem, -List.getD_eq_getElem?_getD, ite_yes, F]
                    refine AAny.done (by kernel_rfl) ?_
                    simp -dsimp -implicitDefEqProofs (disch := omega) [go_sem, -List.getD_eq_getElem?_getD, ite_yes, F]
                    refine ⟨_, _, ⟨(d + 1 + r, p.1, z, b), a7, s7, rfl, by omega, by omega, rfl⟩, weakS_sets [some 0, some 4] rfl ht (h.wms _ _ _ _) ?_ (by simp -dsimp -implicitDefEqProofs (disch := omega) [go_sem, -List.getD_eq_getElem?_getD, ite_yes, ht, htp])⟩
                    simp -dsimp -implicitDefEqProofs (disch := omega) [go_sem, -List.getD_eq_getElem?_getD, ite_yes, htp]
                    exact ⟨wl_net htp, .inl ⟨by simp [vlE], by simp [vlE, flat]⟩⟩
                · simp -dsimp -implicitDefEqProofs (disch := omega) [go_sem, -List.getD_eq_getElem?_getD, ite_yes, F]
                  refine ACall.via (one_R ((h.step (by omega)).app _) (by omega) 3 (by omega)) ?_
                  rintro _ _ ⟨b, rfl, a7, s7, q7, q7', rfl⟩
                  simp -dsimp -implicitDefEqProofs (disch := omega) [go_sem, -List.getD_eq_getElem?_getD, ite_yes, F]
                  refine AAt.of (SubH.setN) ?_
                  refine AAny.two 8 3 23 (by kernel_rfl) (by kernel_rfl) (by kernel_rfl) ?_ ?_
                  · simp -dsimp -implicitDefEqProofs (disch := omega) [go_sem, -List.getD_eq_getElem?_getD, ite_yes, F]
                    refine AAt.of (SubH.setN) ?_
                    refine AAny.takes (fuel := 5) (by kernel_rfl) (by kernel_rfl) [5, 6, 7] (by kernel_rfl) (by kernel_rfl) ?_
                    simp -dsimp -implicitDefEqProofs (disch := omega) [go_sem, -List.getD_eq_getElem?_getD, ite_yes, F]
                    refine AAny.one1 4 23 ?_
                    simp -dsimp -implicitDefEqProofs (disch := omega) [go_sem, -List.getD_eq_getElem?_getD, ite_yes, F]
                    refine AAt.of (SubH.setN) ?_
                    refine AAny.one1 3 26 ?_
                    simp -dsimp -implicitDefEqProofs (disch := omega) [go_sem, -List.getD_eq_getElem?_getD, ite_yes, F]
                    refine AAt.of (SubH.setN) ?_
                    refine AAny.one1 2 27 ?_
                    simp -dsimp -implicitDefEqProofs (disch := omega) [go_sem, -List.getD_eq_getElem?_getD, ite_yes, F]
                    refine AAt.of (SubH.setN) ?_
                    refine AAny.one1 1 28 ?_
                    simp -dsimp -implicitDefEqProofs (disch := omega) [go_sem, -List.getD_eq_getElem?_getD, ite_yes, F]
                    first | refine AAt.of (SubH.setN) ?_ | (refine ⟨?_, AAt.of (SubH.setN) ?_⟩; · omega)
                    refine AAny.takes (fuel := 0) (by kernel_rfl) (by kernel_rfl) [29] (by kernel_rfl) (by kernel_rfl) ?_
                    simp -dsimp -implicitDefEqProofs (disch := omega) [go_sem, -List.getD_eq_getElem?_getD, ite_yes, F]
                    refine AAny.done (by kernel_rfl) ?_
                    simp -dsimp -implicitDefEqProofs (disch := omega) [go_sem, -List.getD_eq_getElem?_getD, ite_yes, F]
                    refine ⟨_, _, ⟨(d + 1 + r, p.1, z, b), a7, s7, rfl, by omega, by omega, rfl⟩, weakS_sets [some 0, some 4] rfl ht (h.wms _ _ _ _) ?_ (by simp -dsimp -implicitDefEqProofs (disch := omega) [go_sem, -List.getD_eq_getElem?_getD, ite_yes, ht, htp])⟩
                    simp -dsimp -implicitDefEqProofs (disch := omega) [go_sem, -List.getD_eq_getElem?_getD, ite_yes, htp]
                    exact ⟨wl_net htp, .inl ⟨by simp [vlE], by simp [vlE, flat]⟩⟩
                  · simp -dsimp -implicitDefEqProofs (disch := omega) [go_sem, -List.getD_eq_getElem?_getD, ite_yes, F]
                    refine AAt.of (SubH.setN) ?_
                    refine AAny.one1 7 3 ?_
                    simp -dsimp -implicitDefEqProofs (disch := omega) [go_sem, -List.getD_eq_getElem?_getD, ite_yes, F]
                    refine AAt.of (SubH.setN) ?_
                    refine AAny.takes (fuel := 4) (by kernel_rfl) (by kernel_rfl) [5, 6, 7] (by kernel_rfl) (by kernel_rfl) ?_
                    simp -dsimp -implicitDefEqProofs (disch := omega) [go_sem, -List.getD_eq_getElem?_getD, ite_yes, F]
                    refine AAny.one1 3 26 ?_
                    simp -dsimp -implicitDefEqProofs (disch := omega) [go_sem, -List.getD_eq_getElem?_getD, ite_yes, F]
                    refine AAt.of (SubH.setN) ?_
                    refine AAny.one1 2 27 ?_
                    simp -dsimp -implicitDefEqProofs (disch := omega) [go_sem, -List.getD_eq_getElem?_getD, ite_yes, F]
                    refine AAt.of (SubH.setN) ?_
                    refine AAny.one1 1 28 ?_
                    simp -dsimp -implicitDefEqProofs (disch := omega) [go_sem, -List.getD_eq_getElem?_getD, ite_yes, F]
                    first | refine AAt.of (SubH.setN) ?_ | (refine ⟨?_, AAt.of (SubH.setN) ?_⟩; · omega)
                    refine AAny.takes (fuel := 0) (by kernel_rfl) (by kernel_rfl) [29] (by kernel_rfl) (by kernel_rfl) ?_
                    simp -dsimp -implicitDefEqProofs (disch := omega) [go_sem, -List.getD_eq_getElem?_getD, ite_yes, F]
                    refine AAny.done (by kernel_rfl) ?_
                    simp -dsimp -implicitDefEqProofs (disch := omega) [go_sem, -List.getD_eq_getElem?_getD, ite_yes, F]
                    refine ⟨_, _, ⟨(d + 1 + r, p.1, z, b), a7, s7, rfl, by omega, by omega, rfl⟩, weakS_sets [some 0, some 4] rfl ht (h.wms _ _ _ _) ?_ (by simp -dsimp -implicitDefEqProofs (disch := omega) [go_sem, -List.getD_eq_getElem?_getD, ite_yes, ht, htp])⟩
                    simp -dsimp -implicitDefEqProofs (disch := omega) [go_sem, -List.getD_eq_getElem?_getD, ite_yes, htp]
                    exact ⟨wl_net htp, .inl ⟨by simp [vlE], by simp [vlE, flat]⟩⟩
            · as_aux_lemma =>
                simp -dsimp -implicitDefEqProofs (disch := omega) [go_sem, -List.getD_eq_getElem?_getD, ite_yes, F]
                refine ACall.via (one_R ((h.step (by omega)).app _) (by omega) 3 (by omega)) ?_
                rintro _ _ ⟨b, rfl, a7, s7, q7, q7', rfl⟩
                simp -dsimp -implicitDefEqProofs (disch := omega) [go_sem, -List.getD_eq_getElem?_getD, ite_yes, F]
                refine AAt.of (SubH.setN) ?_
                refine AAny.two 10 3 20 (by kernel_rfl) (by kernel_rfl) (by kernel_rfl) ?_ ?_
                · simp -dsimp -implicitDefEqProofs (disch := omega) [go_sem, -List.getD_eq_getElem?_getD, ite_yes, F]
                  refine AAt.of (SubH.setN) ?_
                  refine AAny.takes (fuel := 7) (by kernel_rfl) (by kernel_rfl) [5, 6, 7] (by kernel_rfl) (by kernel_rfl) ?_
                  simp -dsimp -implicitDefEqProofs (disch := omega) [go_sem, -List.getD_eq_getElem?_getD, ite_yes, F]
                  refine AAny.one1 6 20 ?_
                  simp -dsimp -implicitDefEqProofs (disch := omega) [go_sem, -List.getD_eq_getElem?_getD, ite_yes, F]
                  refine AAt.of (SubH.setN) ?_
                  refine AAny.takes (fuel := 5) (by kernel_rfl) (by kernel_rfl) [22] (by kernel_rfl) (by kernel_rfl) ?_
                  simp -dsimp -implicitDefEqProofs (disch := omega) [go_sem, -List.getD_eq_getElem?_getD, ite_yes, F]
                  refine AAny.one1 4 23 ?_
                  simp -dsimp -implicitDefEqProofs (disch := omega) [go_sem, -List.getD_eq_getElem?_getD, ite_yes, F]
                  refine AAt.of (SubH.setN) ?_
                  refine AAny.one1 3 26 ?_
                  simp -dsimp -implicitDefEqProofs (disch := omega) [go_sem, -List.getD_eq_getElem?_getD, ite_yes, F]
                  refine AAt.of (SubH.setN) ?_
                  refine AAny.one1 2 27 ?_
                  simp -dsimp -implicitDefEqProofs (disch := omega) [go_sem, -List.getD_eq_getElem?_getD, ite_yes, F]
                  refine AAt.of (SubH.setN) ?_
                  refine AAny.one1 1 28 ?_
                  simp -dsimp -implicitDefEqProofs (disch := omega) [go_sem, -List.getD_eq_getElem?_getD, ite_yes, F]
                  first | refine AAt.of (SubH.setN) ?_ | (refine ⟨?_, AAt.of (SubH.setN) ?_⟩; · omega)
                  refine AAny.takes (fuel := 0) (by kernel_rfl) (by kernel_rfl) [29] (by kernel_rfl) (by kernel_rfl) ?_
                  simp -dsimp -implicitDefEqProofs (disch := omega) [go_sem, -List.getD_eq_getElem?_getD, ite_yes, F]
                  refine AAny.done (by kernel_rfl) ?_
                  simp -dsimp -implicitDefEqProofs (disch := omega) [go_sem, -List.getD_eq_getElem?_getD, ite_yes, F]
                  refine ⟨_, _, ⟨(d + 1 + r, p.1, z, b), a7, s7, rfl, by omega, by omega, rfl⟩, weakS_sets [some 0, some 4] rfl ht (h.wms _ _ _ _) ?_ (by simp -dsimp -implicitDefEqProofs (disch := omega) [go_sem, -List.getD_eq_getElem?_getD, ite_yes, ht, htp])⟩
                  simp -dsimp -implicitDefEqProofs (disch := omega) [go_sem, -List.getD_eq_getElem?_getD, ite_yes, htp]
                  exact ⟨wl_net htp, .inl ⟨by simp [vlE], by simp [vlE, flat]⟩⟩
                · simp -dsimp -implicitDefEqProofs (disch := omega) [go_sem, -List.getD_eq_getElem?_getD, ite_yes, F]
                  refine AAt.of (SubH.setN) ?_
                  refine AAny.takes (fuel := 9) (by kernel_rfl) (by kernel_rfl) [22] (by kernel_rfl) (by kernel_rfl) ?_
                  simp -dsimp -implicitDefEqProofs (disch := omega) [go_sem, -List.getD_eq_getElem?_getD, ite_yes, F]
                  refine AAny.two 8 3 23 (by kernel_rfl) (by kernel_rfl) (by kernel_rfl) ?_ ?_
                  · simp -dsimp -implicitDefEqProofs (disch := omega) [go_sem, -List.getD_eq_getElem?_getD, ite_yes, F]
                    refine AAt.of (SubH.setN) ?_
                    refine AAny.takes (fuel := 5) (by kernel_rfl) (by kernel_rfl) [5, 6, 7] (by kernel_rfl) (by kernel_rfl) ?_
                    simp -dsimp -implicitDefEqProofs (disch := omega) [go_sem, -List.getD_eq_getElem?_getD, ite_yes, F]
                    refine AAny.one1 4 23 ?_
                    simp -dsimp -implicitDefEqProofs (disch := omega) [go_sem, -List.getD_eq_getElem?_getD, ite_yes, F]
                    refine AAt.of (SubH.setN) ?_
                    refine AAny.one1 3 26 ?_
                    simp -dsimp -implicitDefEqProofs (disch := omega) [go_sem, -List.getD_eq_getElem?_getD, ite_yes, F]
                    refine AAt.of (SubH.setN) ?_
                    refine AAny.one1 2 27 ?_
                    simp -dsimp -implicitDefEqProofs (disch := omega) [go_sem, -List.getD_eq_getElem?_getD, ite_yes, F]
                    refine AAt.of (SubH.setN) ?_
                    refine AAny.one1 1 28 ?_
                    simp -dsimp -implicitDefEqProofs (disch := omega) [go_sem, -List.getD_eq_getElem?_getD, ite_yes, F]
                    first | refine AAt.of (SubH.setN) ?_ | (refine ⟨?_, AAt.of (SubH.setN) ?_⟩; · omega)
                    refine AAny.takes (fuel := 0) (by kernel_rfl) (by kernel_rfl) [29] (by kernel_rfl) (by kernel_rfl) ?_
                    simp -dsimp -implicitDefEqProofs (disch := omega) [go_sem, -List.getD_eq_getElem?_getD, ite_yes, F]
                    refine AAny.done (by kernel_rfl) ?_
                    simp -dsimp -implicitDefEqProofs (disch := omega) [go_sem, -List.getD_eq_getElem?_getD, ite_yes, F]
                    refine ⟨_, _, ⟨(d + 1 + r, p.1, z, b), a7, s7, rfl, by omega, by omega, rfl⟩, weakS_sets [some 0, some 4] rfl ht (h.wms _ _ _ _) ?_ (by simp -dsimp -implicitDefEqProofs (disch := omega) [go_sem, -List.getD_eq_getElem?_getD, ite_yes, ht, htp])⟩
                    simp -dsimp -implicitDefEqProofs (disch := omega) [go_sem, -List.getD_eq_getElem?_getD, ite_yes, htp]
                    exact ⟨wl_net htp, .inl ⟨by simp [vlE], by simp [vlE, flat]⟩⟩
                  · simp -dsimp -implicitDefEqProofs (disch := omega) [go_sem, -List.getD_eq_getElem?_getD, ite_yes, F]
                    refine AAt.of (SubH.setN) ?_
                    refine AAny.one1 7 3 ?_
                    simp -dsimp -implicitDefEqProofs (disch := omega) [go_sem, -List.getD_eq_getElem?_getD, ite_yes, F]
                    refine AAt.of (SubH.setN) ?_
                    refine AAny.takes (fuel := 4) (by kernel_rfl) (by kernel_rfl) [5, 6, 7] (by kernel_rfl) (by kernel_rfl) ?_
                    simp -dsimp -implicitDefEqProofs (disch := omega) [go_sem, -List.getD_eq_getElem?_getD, ite_yes, F]
                    refine AAny.one1 3 26 ?_
                    simp -dsimp -implicitDefEqProofs (disch := omega) [go_sem, -List.getD_eq_getElem?_getD, ite_yes, F]
                    refine AAt.of (SubH.setN) ?_
                    refine AAny.one1 2 27 ?_
                    simp -dsimp -implicitDefEqProofs (disch := omega) [go_sem, -List.getD_eq_getElem?_getD, ite_yes, F]
                    refine AAt.of (SubH.setN) ?_
                    refine AAny.one1 1 28 ?_
                    simp -dsimp -implicitDefEqProofs (disch := omega) [go_sem, -List.getD_eq_getElem?_getD, ite_yes, F]
                    first | refine AAt.of (SubH.setN) ?_ | (refine ⟨?_, AAt.of (SubH.setN) ?_⟩; · omega)
                    refine AAny.takes (fuel := 0) (by kernel_rfl) (by kernel_rfl) [29] (by kernel_rfl) (by kernel_rfl) ?_
                    simp -dsimp -implicitDefEqProofs (disch := omega) [go_sem, -List.getD_eq_getElem?_getD, ite_yes, F]
                    refine AAny.done (by kernel_rfl) ?_
                    simp -dsimp -implicitDefEqProofs (disch := omega) [go_sem, -List.getD_eq_getElem?_getD, ite_yes, F]
                    refine ⟨_, _, ⟨(d + 1 + r, p.1, z, b), a7, s7, rfl, by omega, by omega, rfl⟩, weakS_sets [some 0, some 4] rfl ht (h.wms _ _ _ _) ?_ (by simp -dsimp -implicitDefEqProofs (disch := omega) [go_sem, -List.getD_eq_getElem?_getD, ite_yes, ht, htp])⟩
                    simp -dsimp -implicitDefEqProofs (disch := omega) [go_sem, -List.getD_eq_getElem?_getD, ite_yes, htp]
                    exact ⟨wl_net htp, .inl ⟨by simp [vlE], by simp [vlE, flat]⟩⟩
        · as_aux_lemma =>
            simp -dsimp -implicitDefEqProofs (disch := omega) [go_sem, -List.getD_eq_getElem?_getD, ite_yes, F]
            refine ACall.via (one_R ((h.step (by omega)).app _) (by omega) 3 (by omega)) ?_
            rintro _ _ ⟨b, rfl, a7, s7, q7, q7', rfl⟩
            simp -dsimp -implicitDefEqProofs (disch := omega) [go_sem, -List.getD_eq_getElem?_getD, ite_yes, F]
            refine AAt.of (SubH.setN) ?_
            refine AAny.two 14 3 9 (by kernel_rfl) (by kernel_rfl) (by kernel_rfl) ?_ ?_
            · as_aux_lemma =>
                simp -dsimp -implicitDefEqProofs (disch := omega) [go_sem, -List.getD_eq_getElem?_getD, ite_yes, F]
                refine AAt.of (SubH.setN) ?_
                refine AAny.takes (fuel := 11) (by kernel_rfl) (by kernel_rfl) [5, 6, 7] (by kernel_rfl) (by kernel_rfl) ?_
                simp -dsimp -implicitDefEqProofs (disch := omega) [go_sem, -List.getD_eq_getElem?_getD, ite_yes, F]
                refine AAny.one1 10 9 ?_
                simp -dsimp -implicitDefEqProofs (disch := omega) [go_sem, -List.getD_eq_getElem?_getD, ite_yes, F]
                refine AAt.of (SubH.setN) ?_
                refine AAny.takes (fuel := 7) (by kernel_rfl) (by kernel_rfl) [11, 12, 13] (by kernel_rfl) (by kernel_rfl) ?_
                simp -dsimp -implicitDefEqProofs (disch := omega) [go_sem, -List.getD_eq_getElem?_getD, ite_yes, F]
                refine AAny.one1 6 20 ?_
                simp -dsimp -implicitDefEqProofs (disch := omega) [go_sem, -List.getD_eq_getElem?_getD, ite_yes, F]
                refine AAt.of (SubH.setN) ?_
                refine AAny.takes (fuel := 5) (by kernel_rfl) (by kernel_rfl) [22] (by kernel_rfl) (by kernel_rfl) ?_
                simp -dsimp -implicitDefEqProofs (disch := omega) [go_sem, -List.getD_eq_getElem?_getD, ite_yes, F]
                refine AAny.one1 4 23 ?_
                simp -dsimp -implicitDefEqProofs (disch := omega) [go_sem, -List.getD_eq_getElem?_getD, ite_yes, F]
                refine AAt.of (SubH.setN) ?_
                refine AAny.one1 3 26 ?_
                simp -dsimp -implicitDefEqProofs (disch := omega) [go_sem, -List.getD_eq_getElem?_getD, ite_yes, F]
                refine AAt.of (SubH.setN) ?_
                refine AAny.one1 2 27 ?_
                simp -dsimp -implicitDefEqProofs (disch := omega) [go_sem, -List.getD_eq_getElem?_getD, ite_yes, F]
                refine AAt.of (SubH.setN) ?_
                refine AAny.one1 1 28 ?_
                simp -dsimp -implicitDefEqProofs (disch := omega) [go_sem, -List.getD_eq_getElem?_getD, ite_yes, F]
                first | refine AAt.of (SubH.setN) ?_ | (refine ⟨?_, AAt.of (SubH.setN) ?_⟩; · omega)
                refine AAny.takes (fuel := 0) (by kernel_rfl) (by kernel_rfl) [29] (by kernel_rfl) (by kernel_rfl) ?_
                simp -dsimp -implicitDefEqProofs (disch := omega) [go_sem, -List.getD_eq_getElem?_getD, ite_yes, F]
                refine AAny.done (by kernel_rfl) ?_
                simp -dsimp -implicitDefEqProofs (disch := omega) [go_sem, -List.getD_eq_getElem?_getD, ite_yes, F]
                refine ⟨_, _, ⟨(d + 1 + r, p.1, z, b), a7, s7, rfl, by omega, by omega, rfl⟩, weakS_sets [some 0, some 4] rfl ht (h.wms _ _ _ _) ?_ (by simp -dsimp -implicitDefEqProofs (disch := omega) [go_sem, -List.getD_eq_getElem?_getD, ite_yes, ht, htp])⟩
                simp -dsimp -implicitDefEqProofs (disch := omega) [go_sem, -List.getD_eq_getElem?_getD, ite_yes, htp]
                exact ⟨wl_net htp, .inl ⟨by simp [vlE], by simp [vlE, flat]⟩⟩
            · as_aux_lemma =>
                simp -dsimp -implicitDefEqProofs (disch := omega) [go_sem, -List.getD_eq_getElem?_getD, ite_yes, F]
                refine AAt.of (SubH.setN) ?_
                refine AAny.takes (fuel := 11) (by kernel_rfl) (by kernel_rfl) [11, 12, 13] (by kernel_rfl) (by kernel_rfl) ?_
                simp -dsimp -implicitDefEqProofs (disch := omega) [go_sem, -List.getD_eq_getElem?_getD, ite_yes, F]
                refine AAny.two 10 3 20 (by kernel_rfl) (by kernel_rfl) (by kernel_rfl) ?_ ?_
                · simp -dsimp -implicitDefEqProofs (disch := omega) [go_sem, -List.getD_eq_getElem?_getD, ite_yes, F]
                  refine AAt.of (SubH.setN) ?_
                  refine AAny.takes (fuel := 7) (by kernel_rfl) (by kernel_rfl) [5, 6, 7] (by kernel_rfl) (by kernel_rfl) ?_
                  simp -dsimp -implicitDefEqProofs (disch := omega) [go_sem, -List.getD_eq_getElem?_getD, ite_yes, F]
                  refine AAny.one1 6 20 ?_
                  simp -dsimp -implicitDefEqProofs (disch := omega) [go_sem, -List.getD_eq_getElem?_getD, ite_yes, F]
                  refine AAt.of (SubH.setN) ?_
                  refine AAny.takes (fuel := 5) (by kernel_rfl) (by kernel_rfl) [22] (by kernel_rfl) (by kernel_rfl) ?_
                  simp -dsimp -implicitDefEqProofs (disch := omega) [go_sem, -List.getD_eq_getElem?_getD, ite_yes, F]
                  refine AAny.one1 4 23 ?_
                  simp -dsimp -implicitDefEqProofs (disch := omega) [go_sem, -List.getD_eq_getElem?_getD, ite_yes, F]
                  refine AAt.of (SubH.setN) ?_
                  refine AAny.one1 3 26 ?_
                  simp -dsimp -implicitDefEqProofs (disch := omega) [go_sem, -List.getD_eq_getElem?_getD, ite_yes, F]
                  refine AAt.of (SubH.setN) ?_
                  refine AAny.one1 2 27 ?_
                  simp -dsimp -implicitDefEqProofs (disch := omega) [go_sem, -List.getD_eq_getElem?_getD, ite_yes, F]
                  refine AAt.of (SubH.setN) ?_
                  refine AAny.one1 1 28 ?_
                  simp -dsimp -implicitDefEqProofs (disch := omega) [go_sem, -List.getD_eq_getElem?_getD, ite_yes, F]
                  first | refine AAt.of (SubH.setN) ?_ | (refine ⟨?_, AAt.of (SubH.setN) ?_⟩; · omega)
                  refine AAny.takes (fuel := 0) (by kernel_rfl) (by kernel_rfl) [29] (by kernel_rfl) (by kernel_rfl) ?_
                  simp -dsimp -implicitDefEqProofs (disch := omega) [go_sem, -List.getD_eq_getElem?_getD, ite_yes, F]
                  refine AAny.done (by kernel_rfl) ?_
                  simp -dsimp -implicitDefEqProofs (disch := omega) [go_sem, -List.getD_eq_getElem?_getD, ite_yes, F]
                  refine ⟨_, _, ⟨(d + 1 + r, p.1, z, b), a7, s7, rfl, by omega, by omega, rfl⟩, weakS_sets [some 0, some 4] rfl ht (h.wms _ _ _ _) ?_ (by simp -dsimp -implicitDefEqProofs (disch := omega) [go_sem, -List.getD_eq_getElem?_getD, ite_yes, ht, htp])⟩
                  simp -dsimp -implicitDefEqProofs (disch := omega) [go_sem, -List.getD_eq_getElem?_getD, ite_yes, htp]
                  exact ⟨wl_net htp, .inl ⟨by simp [vlE], by simp [vlE, flat]⟩⟩
                · simp -dsimp -implicitDefEqProofs (disch := omega) [go_sem, -List.getD_eq_getElem?_getD, ite_yes, F]
                  refine AAt.of (SubH.setN) ?_
                  refine AAny.takes (fuel := 9) (by kernel_rfl) (by kernel_rfl) [22] (by kernel_rfl) (by kernel_rfl) ?_
                  simp -dsimp -implicitDefEqProofs (disch := omega) [go_sem, -List.getD_eq_getElem?_getD, ite_yes, F]
                  refine AAny.two 8 3 23 (by kernel_rfl) (by kernel_rfl) (by kernel_rfl) ?_ ?_
                  · simp -dsimp -implicitDefEqProofs (disch := omega) [go_sem, -List.getD_eq_getElem?_getD, ite_yes, F]
                    refine AAt.of (SubH.setN) ?_
                    refine AAny.takes (fuel := 5) (by kernel_rfl) (by kernel_rfl) [5, 6, 7] (by kernel_rfl) (by kernel_rfl) ?_
                    simp -dsimp -implicitDefEqProofs (disch := omega) [go_sem, -List.getD_eq_getElem?_getD, ite_yes, F]
                    refine AAny.one1 4 23 ?_
                    simp -dsimp -implicitDefEqProofs (disch := omega) [go_sem, -List.getD_eq_getElem?_getD, ite_yes, F]
                    refine AAt.of (SubH.setN) ?_
                    refine AAny.one1 3 26 ?_
                    simp -dsimp -implicitDefEqProofs (disch := omega) [go_sem, -List.getD_eq_getElem?_getD, ite_yes, F]
                    refine AAt.of (SubH.setN) ?_
                    refine AAny.one1 2 27 ?_
                    simp -dsimp -implicitDefEqProofs (disch := omega) [go_sem, -List.getD_eq_getElem?_getD, ite_yes, F]
                    refine AAt.of (SubH.setN) ?_
                    refine AAny.one1 1 28 ?_
                    simp -dsimp -implicitDefEqProofs (disch := omega) [go_sem, -List.getD_eq_getElem?_getD, ite_yes, F]
                    first | refine AAt.of (SubH.setN) ?_ | (refine ⟨?_, AAt.of (SubH.setN) ?_⟩; · omega)
                    refine AAny.takes (fuel := 0) (by kernel_rfl) (by kernel_rfl) [29] (by kernel_rfl) (by kernel_rfl) ?_
                    simp -dsimp -implicitDefEqProofs (disch := omega) [go_sem, -List.getD_eq_getElem?_getD, ite_yes, F]
                    refine AAny.done (by kernel_rfl) ?_
                    simp -dsimp -implicitDefEqProofs (disch := omega) [go_sem, -List.getD_eq_getElem?_getD, ite_yes, F]
                    refine ⟨_, _, ⟨(d + 1 + r, p.1, z, b), a7, s7, rfl, by omega, by omega, rfl⟩, weakS_sets [some 0, some 4] rfl ht (h.wms _ _ _ _) ?_ (by simp -dsimp -implicitDefEqProofs (disch := omega) [go_sem, -List.getD_eq_getElem?_getD, ite_yes, ht, htp])⟩
                    simp -dsimp -implicitDefEqProofs (disch := omega) [go_sem, -List.getD_eq_getElem?_getD, ite_yes, htp]
                    exact ⟨wl_net htp, .inl ⟨by simp [vlE], by simp [vlE, flat]⟩⟩
                  · simp -dsimp -implicitDefEqProofs (disch := omega) [go_sem, -List.getD_eq_getElem?_getD, ite_yes, F]
                    refine AAt.of (SubH.setN) ?_
                    refine AAny.one1 7 3 ?_
                    simp -dsimp -implicitDefEqProofs (disch := omega) [go_sem, -List.getD_eq_getElem?_getD, ite_yes, F]
                    refine AAt.of (SubH.setN) ?_
                    refine AAny.takes (fuel := 4) (by kernel_rfl) (by kernel_rfl) [5, 6, 7] (by kernel_rfl) (by kernel_rfl) ?_
                    simp -dsimp -implicitDefEqProofs (disch := omega) [go_sem, -List.getD_eq_getElem?_getD, ite_yes, F]
                    refine AAny.one1 3 26 ?_
                    simp -dsimp -implicitDefEqProofs (disch := omega) [go_sem, -List.getD_eq_getElem?_getD, ite_yes, F]
                    refine AAt.of (SubH.setN) ?_
                    refine AAny.one1 2 27 ?_
                    simp -dsimp -implicitDefEqProofs (disch := omega) [go_sem, -List.getD_eq_getElem?_getD, ite_yes, F]
                    refine AAt.of (SubH.setN) ?_
                    refine AAny.one1 1 28 ?_
                    simp -dsimp -implicitDefEqProofs (disch := omega) [go_sem, -List.getD_eq_getElem?_getD, ite_yes, F]
                    first | refine AAt.of (SubH.setN) ?_ | (refine ⟨?_, AAt.of (SubH.setN) ?_⟩; · omega)
                    refine AAny.takes (fuel := 0) (by kernel_rfl) (by kernel_rfl) [29] (by kernel_rfl) (by kernel_rfl) ?_
                    simp -dsimp -implicitDefEqProofs (disch := omega) [go_sem, -List.getD_eq_getElem?_getD, ite_yes, F]
                    refine AAny.done (by kernel_rfl) ?_
                    simp -dsimp -implicitDefEqProofs (disch := omega) [go_sem, -List.getD_eq_getElem?_getD, ite_yes, F]
                    refine ⟨_, _, ⟨(d + 1 + r, p.1, z, b), a7, s7, rfl, by omega, by omega, rfl⟩, weakS_sets [some 0, some 4] rfl ht (h.wms _ _ _ _) ?_ (by simp -dsimp -implicitDefEqProofs (disch := omega) [go_sem, -List.getD_eq_getElem?_getD, ite_yes, ht, htp])⟩
                    simp -dsimp -implicitDefEqProofs (disch := omega) [go_sem, -List.getD_eq_getElem?_getD, ite_yes, htp]
                    exact ⟨wl_net htp, .inl ⟨by simp [vlE], by simp [vlE, flat]⟩⟩
    · as_aux_lemma =>
        simp -dsimp -implicitDefEqProofs (disch := omega) [go_sem, -List.getD_eq_getElem?_getD, ite_yes, F]
        refine ACall.via (one_R ((h.step (by omega)).app _) (by omega) 3 (by omega)) ?_
        rintro _ _ ⟨b, rfl, a7, s7, q7, q7', rfl⟩
        simp -dsimp -implicitDefEqProofs (disch := omega) [go_sem, -List.getD_eq_getElem?_getD, ite_yes, F]
        refine AAt.of (SubH.setN) ?_
        refine AAny.three 18 3 9 15 (by kernel_rfl) (by kernel_rfl) (by kernel_rfl) ?_ ?_ ?_
        · as_aux_lemma =>
            simp -dsimp -implicitDefEqProofs (disch := omega) [go_sem, -List.getD_eq_getElem?_getD, ite_yes, F]
            refine AAt.of (SubH.setN) ?_
            refine AAny.takes (fuel := 15) (by kernel_rfl) (by kernel_rfl) [5, 6, 7] (by kernel_rfl) (by kernel_rfl) ?_
            simp -dsimp -implicitDefEqProofs (disch := omega) [go_sem, -List.getD_eq_getElem?_getD, ite_yes, F]
            refine AAny.two 14 9 15 (by kernel_rfl) (by kernel_rfl) (by kernel_rfl) ?_ ?_
            · as_aux_lemma =>
                simp -dsimp -implicitDefEqProofs (disch := omega) [go_sem, -List.getD_eq_getElem?_getD, ite_yes, F]
                refine AAt.of (SubH.setN) ?_
                refine AAny.takes (fuel := 11) (by kernel_rfl) (by kernel_rfl) [11, 12, 13] (by kernel_rfl) (by kernel_rfl) ?_
                simp -dsimp -implicitDefEqProofs (disch := omega) [go_sem, -List.getD_eq_getElem?_getD, ite_yes, F]
                refine AAny.one1 10 15 ?_
                simp -dsimp -implicitDefEqProofs (disch := omega) [go_sem, -List.getD_eq_getElem?_getD, ite_yes, F]
                refine AAt.of (SubH.setN) ?_
                refine AAny.takes (fuel := 7) (by kernel_rfl) (by kernel_rfl) [17, 18, 19] (by kernel_rfl) (by kernel_rfl) ?_
                simp -dsimp -implicitDefEqProofs (disch := omega) [go_sem, -List.getD_eq_getElem?_getD, ite_yes, F]
                refine AAny.one1 6 20 ?_
                simp -dsimp -implicitDefEqProofs (disch := omega) [go_sem, -List.getD_eq_getElem?_getD, ite_yes, F]
                refine AAt.of (SubH.setN) ?_
                refine AAny.takes (fuel := 5) (by kernel_rfl) (by kernel_rfl) [22] (by kernel_rfl) (by kernel_rfl) ?_
                simp -dsimp -implicitDefEqProofs (disch := omega) [go_sem, -List.getD_eq_getElem?_getD, ite_yes, F]
                refine AAny.one1 4 23 ?_
                simp -dsimp -implicitDefEqProofs (disch := omega) [go_sem, -List.getD_eq_getElem?_getD, ite_yes, F]
                refine AAt.of (SubH.setN) ?_
                refine AAny.one1 3 26 ?_
                simp -dsimp -implicitDefEqProofs (disch := omega) [go_sem, -List.getD_eq_getElem?_getD, ite_yes, F]
                refine AAt.of (SubH.setN) ?_
                refine AAny.one1 2 27 ?_
                simp -dsimp -implicitDefEqProofs (disch := omega) [go_sem, -List.getD_eq_getElem?_getD, ite_yes, F]
                refine AAt.of (SubH.setN) ?_
                refine AAny.one1 1 28 ?_
                simp -dsimp -implicitDefEqProofs (disch := omega) [go_sem, -List.getD_eq_getElem?_getD, ite_yes, F]
                first | refine AAt.of (SubH.setN) ?_ | (refine ⟨?_, AAt.of (SubH.setN) ?_⟩; · omega)
                refine AAny.takes (fuel := 0) (by kernel_rfl) (by kernel_rfl) [29] (by kernel_rfl) (by kernel_rfl) ?_
                simp -dsimp -implicitDefEqProofs (disch := omega) [go_sem, -List.getD_eq_getElem?_getD, ite_yes, F]
                refine AAny.done (by kernel_rfl) ?_
                simp -dsimp -implicitDefEqProofs (disch := omega) [go_sem, -List.getD_eq_getElem?_getD, ite_yes, F]
                refine ⟨_, _, ⟨(d + 1 + r, p.1, z, b), a7, s7, rfl, by omega, by omega, rfl⟩, weakS_sets [some 0, some 4] rfl ht (h.wms _ _ _ _) ?_ (by simp -dsimp -implicitDefEqProofs (disch := omega) [go_sem, -List.getD_eq_getElem?_getD, ite_yes, ht, htp])⟩
                simp -dsimp -implicitDefEqProofs (disch := omega) [go_sem, -List.getD_eq_getElem?_getD, ite_yes, htp]
                exact ⟨wl_net htp, .inl ⟨by simp [vlE], by simp [vlE, flat]⟩⟩
            · as_aux_lemma =>
                simp -dsimp -implicitDefEqProofs (disch := omega) [go_sem, -List.getD_eq_getElem?_getD, ite_yes, F]
                refine AAt.of (SubH.setN) ?_
                refine AAny.takes (fuel := 11) (by kernel_rfl) (by kernel_rfl) [17, 18, 19] (by kernel_rfl) (by kernel_rfl) ?_
                simp -dsimp -implicitDefEqProofs (disch := omega) [go_sem, -List.getD_eq_getElem?_getD, ite_yes, F]
                refine AAny.one1 10 9 ?_
                simp -dsimp -implicitDefEqProofs (disch := omega) [go_sem, -List.getD_eq_getElem?_getD, ite_yes, F]
                refine AAt.of (SubH.setN) ?_
                refine AAny.takes (fuel := 7) (by kernel_rfl) (by kernel_rfl) [11, 12, 13] (by kernel_rfl) (by kernel_rfl) ?_
                simp -dsimp -implicitDefEqProofs (disch := omega) [go_sem, -List.getD_eq_getElem?_getD, ite_yes, F]
                refine AAny.one1 6 20 ?_
                simp -dsimp -implicitDefEqProofs (disch := omega) [go_sem, -List.getD_eq_getElem?_getD, ite_yes, F]
                refine AAt.of (SubH.setN) ?_
                refine AAny.takes (fuel := 5) (by kernel_rfl) (by kernel_rfl) [22] (by kernel_rfl) (by kernel_rfl) ?_
                simp -dsimp -implicitDefEqProofs (disch := omega) [go_sem, -List.getD_eq_getElem?_getD, ite_yes, F]
                refine AAny.one1 4 23 ?_
                simp -dsimp -implicitDefEqProofs (disch := omega) [go_sem, -List.getD_eq_getElem?_getD, ite_yes, F]
                refine AAt.of (SubH.setN) ?_
                refine AAny.one1 3 26 ?_
                simp -dsimp -implicitDefEqProofs (disch := omega) [go_sem, -List.getD_eq_getElem?_getD, ite_yes, F]
                refine AAt.of (SubH.setN) ?_
                refine AAny.one1 2 27 ?_
                simp -dsimp -implicitDefEqProofs (disch := omega) [go_sem, -List.getD_eq_getElem?_getD, ite_yes, F]
                refine AAt.of (SubH.setN) ?_
                refine AAny.one1 1 28 ?_
                simp -dsimp -implicitDefEqProofs (disch := omega) [go_sem, -List.getD_eq_getElem?_getD, ite_yes, F]
                first | refine AAt.of (SubH.setN) ?_ | (refine ⟨?_, AAt.of (SubH.setN) ?_⟩; · omega)
                refine AAny.takes (fuel := 0) (by kernel_rfl) (by kernel_rfl) [29] (by kernel_rfl) (by kernel_rfl) ?_
                simp -dsimp -implicitDefEqProofs (disch := omega) [go_sem, -List.getD_eq_getElem?_getD, ite_yes, F]
                refine AAny.done (by kernel_rfl) ?_
                simp -dsimp -implicitDefEqProofs (disch := omega) [go_sem, -List.getD_eq_getElem?_getD, ite_yes, F]
                refine ⟨_, _, ⟨(d + 1 + r, p.1, z, b), a7, s7, rfl, by omega, by omega, rfl⟩, weakS_sets [some 0, some 4] rfl ht (h.wms _ _ _ _) ?_ (by simp -dsimp -implicitDefEqProofs (disch := omega) [go_sem, -List.getD_eq_getElem?_getD, ite_yes, ht, htp])⟩
                simp -dsimp -implicitDefEqProofs (disch := omega) [go_sem, -List.getD_eq_getElem?_getD, ite_yes, htp]
                exact ⟨wl_net htp, .inl ⟨by simp [vlE], by simp [vlE, flat]⟩⟩
        · as_aux_lemma =>
            simp -dsimp -implicitDefEqProofs (disch := omega) [go_sem, -List.getD_eq_getElem?_getD, ite_yes, F]
            refine AAt.of (SubH.setN) ?_
            refine AAny.takes (fuel := 15) (by kernel_rfl) (by kernel_rfl) [11, 12, 13] (by kernel_rfl) (by kernel_rfl) ?_
            simp -dsimp -implicitDefEqProofs (disch := omega) [go_sem, -List.getD_eq_getElem?_getD, ite_yes, F]
            refine AAny.two 14 3 15 (by kernel_rfl) (by kernel_rfl) (by kernel_rfl) ?_ ?_
            · as_aux_lemma =>
                simp -dsimp -implicitDefEqProofs (disch := omega) [go_sem, -List.getD_eq_getElem?_getD, ite_yes, F]
                refine AAt.of (SubH.setN) ?_
                refine AAny.takes (fuel := 11) (by kernel_rfl) (by kernel_rfl) [5, 6, 7] (by kernel_rfl) (by kernel_rfl) ?_
                simp -dsimp -implicitDefEqProofs (disch := omega) [go_sem, -List.getD_eq_getElem?_getD, ite_yes, F]
                refine AAny.one1 10 15 ?_
                simp -dsimp -implicitDefEqProofs (disch := omega) [go_sem, -List.getD_eq_getElem?_getD, ite_yes, F]
                refine AAt.of (SubH.setN) ?_
                refine AAny.takes (fuel := 7) (by kernel_rfl) (by kernel_rfl) [17, 18, 19] (by kernel_rfl) (by kernel_rfl) ?_
                simp -dsimp -implicitDefEqProofs (disch := omega) [go_sem, -List.getD_eq_getElem?_getD, ite_yes, F]
                refine AAny.one1 6 20 ?_
                simp -dsimp -implicitDefEqProofs (disch := omega) [go_sem, -List.getD_eq_getElem?_getD, ite_yes, F]
                refine AAt.of (SubH.setN) ?_
                refine AAny.takes (fuel := 5) (by kernel_rfl) (by kernel_rfl) [22] (by kernel_rfl) (by kernel_rfl) ?_
                simp -dsimp -implicitDefEqProofs (disch := omega) [go_sem, -List.getD_eq_getElem?_getD, ite_yes, F]
                refine AAny.one1 4 23 ?_
                simp -dsimp -implicitDefEqProofs (disch := omega) [go_sem, -List.getD_eq_getElem?_getD, ite_yes, F]
                refine AAt.of (SubH.setN) ?_
                refine AAny.one1 3 26 ?_
                simp -dsimp -implicitDefEqProofs (disch := omega) [go_sem, -List.getD_eq_getElem?_getD, ite_yes, F]
                refine AAt.of (SubH.setN) ?_
                refine AAny.one1 2 27 ?_
                simp -dsimp -implicitDefEqProofs (disch := omega) [go_sem, -List.getD_eq_getElem?_getD, ite_yes, F]
                refine AAt.of (SubH.setN) ?_
                refine AAny.one1 1 28 ?_
                simp -dsimp -implicitDefEqProofs (disch := omega) [go_sem, -List.getD_eq_getElem?_getD, ite_yes, F]
                first | refine AAt.of (SubH.setN) ?_ | (refine ⟨?_, AAt.of (SubH.setN) ?_⟩; · omega)
                refine AAny.takes (fuel := 0) (by kernel_rfl) (by kernel_rfl) [29] (by kernel_rfl) (by kernel_rfl) ?_
                simp -dsimp -implicitDefEqProofs (disch := omega) [go_sem, -List.getD_eq_getElem?_getD, ite_yes, F]
                refine AAny.done (by kernel_rfl) ?_
                simp -dsimp -implicitDefEqProofs (disch := omega) [go_sem, -List.getD_eq_getElem?_getD, ite_yes, F]
                refine ⟨_, _, ⟨(d + 1 + r, p.1, z, b), a7, s7, rfl, by omega, by omega, rfl⟩, weakS_sets [some 0, some 4] rfl ht (h.wms _ _ _ _) ?_ (by simp -dsimp -implicitDefEqProofs (disch := omega) [go_sem, -List.getD_eq_getElem?_getD, ite_yes, ht, htp])⟩
                simp -dsimp -implicitDefEqProofs (disch := omega) [go_sem, -List.getD_eq_getElem?_getD, ite_yes, htp]
                exact ⟨wl_net htp, .inl ⟨by simp [vlE], by simp [vlE, flat]⟩⟩
            · as_aux_lemma =>
                simp -dsimp -implicitDefEqProofs (disch := omega) [go_sem, -List.getD_eq_getElem?_getD, ite_yes, F]
                refine AAt.of (SubH.setN) ?_
                refine AAny.takes (fuel := 11) (by kernel_rfl) (by kernel_rfl) [17, 18, 19] (by kernel_rfl) (by kernel_rfl) ?_
                simp -dsimp -implicitDefEqProofs (disch := omega) [go_sem, -List.getD_eq_getElem?_getD, ite_yes, F]
                refine AAny.two 10 3 20 (by kernel_rfl) (by kernel_rfl) (by kernel_rfl) ?_ ?_
                · simp -dsimp -implicitDefEqProofs (disch := omega) [go_sem, -List.getD_eq_getElem?_getD, ite_yes, F]
                  refine AAt.of (SubH.setN) ?_
                  refine AAny.takes (fuel := 7) (by kernel_rfl) (by kernel_rfl) [5, 6, 7] (by kernel_rfl) (by kernel_rfl) ?_
                  simp -dsimp -implicitDefEqProofs (disch := omega) [go_sem, -List.getD_eq_getElem?_getD, ite_yes, F]
                  refine AAny.one1 6 20 ?_
                  simp -dsimp -implicitDefEqProofs (disch := omega) [go_sem, -List.getD_eq_getElem?_getD, ite_yes, F]
                  refine AAt.of (SubH.setN) ?_
                  refine AAny.takes (fuel := 5) (by kernel_rfl) (by kernel_rfl) [22] (by kernel_rfl) (by kernel_rfl) ?_
                  simp -dsimp -implicitDefEqProofs (disch := omega) [go_sem, -List.getD_eq_getElem?_getD, ite_yes, F]
                  refine AAny.one1 4 23 ?_
                  simp -dsimp -implicitDefEqProofs (disch := omega) [go_sem, -List.getD_eq_getElem?_getD, ite_yes, F]
                  refine AAt.of (SubH.setN) ?_
                  refine AAny.one1 3 26 ?_
                  simp -dsimp -implicitDefEqProofs (disch := omega) [go_sem, -List.getD_eq_getElem?_getD, ite_yes, F]
                  refine AAt.of (SubH.setN) ?_
                  refine AAny.one1 2 27 ?_
                  simp -dsimp -implicitDefEqProofs (disch := omega) [go_sem, -List.getD_eq_getElem?_getD, ite_yes, F]
                  refine AAt.of (SubH.setN) ?_
                  refine AAny.one1 1 28 ?_
                  simp -dsimp -implicitDefEqProofs (disch := omega) [go_sem, -List.getD_eq_getElem?_getD, ite_yes, F]
                  first | refine AAt.of (SubH.setN) ?_ | (refine ⟨?_, AAt.of (SubH.setN) ?_⟩; · omega)
                  refine AAny.takes (fuel := 0) (by kernel_rfl) (by kernel_rfl) [29] (by kernel_rfl) (by kernel_rfl) ?_
                  simp -dsimp -implicitDefEqProofs (disch := omega) [go_sem, -List.getD_eq_getElem?_getD, ite_yes, F]
                  refine AAny.done (by kernel_rfl) ?_
                  simp -dsimp -implicitDefEqProofs (disch := omega) [go_sem, -List.getD_eq_getElem?_getD, ite_yes, F]
                  refine ⟨_, _, ⟨(d + 1 + r, p.1, z, b), a7, s7, rfl, by omega, by omega, rfl⟩, weakS_sets [some 0, some 4] rfl ht (h.wms _ _ _ _) ?_ (by simp -dsimp -implicitDefEqProofs (disch := omega) [go_sem, -List.getD_eq_getElem?_getD, ite_yes, ht, htp])⟩
                  simp -dsimp -implicitDefEqProofs (disch := omega) [go_sem, -List.getD_eq_getElem?_getD, ite_yes, htp]
                  exact ⟨wl_net htp, .inl ⟨by simp [vlE], by simp [vlE, flat]⟩⟩
                · simp -dsimp -implicitDefEqProofs (disch := omega) [go_sem, -List.getD_eq_getElem?_getD, ite_yes, F]
                  refine AAt.of (SubH.setN) ?_
                  refine AAny.takes (fuel := 9) (by kernel_rfl) (by kernel_rfl) [22] (by kernel_rfl) (by kernel_rfl) ?_
                  simp -dsimp -implicitDefEqProofs (disch := omega) [go_sem, -List.getD_eq_getElem?_getD, ite_yes, F]
                  refine AAny.two 8 3 23 (by kernel_rfl) (by kernel_rfl) (by kernel_rfl) ?_ ?_
                  · simp -dsimp -implicitDefEqProofs (disch := omega) [go_sem, -List.getD_eq_getElem?_getD, ite_yes, F]
                    refine AAt.of (SubH.setN) ?_
                    refine AAny.takes (fuel := 5) (by kernel_rfl) (by kernel_rfl) [5, 6, 7] (by kernel_rfl) (by kernel_rfl) ?_
                    simp -dsimp -implicitDefEqProofs (disch := omega) [go_sem, -List.getD_eq_getElem?_getD, ite_yes, F]
                    refine AAny.one1 4 23 ?_
                    simp -dsimp -implicitDefEqProofs (disch := omega) [go_sem, -List.getD_eq_getElem?_getD, ite_yes, F]
                    refine AAt.of (SubH.setN) ?_
                    refine AAny.one1 3 26 ?_
                    simp -dsimp -implicitDefEqProofs (disch := omega) [go_sem, -List.getD_eq_getElem?_getD, ite_yes, F]
                    refine AAt.of (SubH.setN) ?_
                    refine AAny.one1 2 27 ?_
                    simp -dsimp -implicitDefEqProofs (disch := omega) [go_sem, -List.getD_eq_getElem?_getD, ite_yes, F]
                    refine AAt.of (SubH.setN) ?_
                    refine AAny.one1 1 28 ?_
                    simp -dsimp -implicitDefEqProofs (disch := omega) [go_sem, -List.getD_eq_getElem?_getD, ite_yes, F]
                    first | refine AAt.of (SubH.setN) ?_ | (refine ⟨?_, AAt.of (SubH.setN) ?_⟩; · omega)
                    refine AAny.takes (fuel := 0) (by kernel_rfl) (by kernel_rfl) [29] (by kernel_rfl) (by kernel_rfl) ?_
                    simp -dsimp -implicitDefEqProofs (disch := omega) [go_sem, -List.getD_eq_getElem?_getD, ite_yes, F]
                    refine AAny.done (by kernel_rfl) ?_
                    simp -dsimp -implicitDefEqProofs (disch := omega) [go_sem, -List.getD_eq_getElem?_getD, ite_yes, F]
                    refine ⟨_, _, ⟨(d + 1 + r, p.1, z, b), a7, s7, rfl, by omega, by omega, rfl⟩, weakS_sets [some 0, some 4] rfl ht (h.wms _ _ _ _) ?_ (by simp -dsimp -implicitDefEqProofs (disch := omega) [go_sem, -List.getD_eq_getElem?_getD, ite_yes, ht, htp])⟩
                    simp -dsimp -implicitDefEqProofs (disch := omega) [go_sem, -List.getD_eq_getElem?_getD, ite_yes, htp]
                    exact ⟨wl_net htp, .inl ⟨by simp [vlE], by simp [vlE, flat]⟩⟩
                  · simp -dsimp -implicitDefEqProofs (disch := omega) [go_sem, -List.getD_eq_getElem?_getD, ite_yes, F]
                    refine AAt.of (SubH.setN) ?_
                    refine AAny.one1 7 3 ?_
                    simp -dsimp -implicitDefEqProofs (disch := omega) [go_sem, -List.getD_eq_getElem?_getD, ite_yes, F]
                    refine AAt.of (SubH.setN) ?_
                    refine AAny.takes (fuel := 4) (by kernel_rfl) (by kernel_rfl) [5, 6, 7] (by kernel_rfl) (by kernel_rfl) ?_
                    simp -dsimp -implicitDefEqProofs (disch := omega) [go_sem, -List.getD_eq_getElem?_getD, ite_yes, F]
                    refine AAny.one1 3 26 ?_
                    simp -dsimp -implicitDefEqProofs (disch := omega) [go_sem, -List.getD_eq_getElem?_getD, ite_yes, F]
                    refine AAt.of (SubH.setN) ?_
                    refine AAny.one1 2 27 ?_
                    simp -dsimp -implicitDefEqProofs (disch := omega) [go_sem, -List.getD_eq_getElem?_getD, ite_yes, F]
                    refine AAt.of (SubH.setN) ?_
                    refine AAny.one1 1 28 ?_
                    simp -dsimp -implicitDefEqProofs (disch := omega) [go_sem, -List.getD_eq_getElem?_getD, ite_yes, F]
                    first | refine AAt.of (SubH.setN) ?_ | (refine ⟨?_, AAt.of (SubH.setN) ?_⟩; · omega)
                    refine AAny.takes (fuel := 0) (by kernel_rfl) (by kernel_rfl) [29] (by kernel_rfl) (by kernel_rfl) ?_
                    simp -dsimp -implicitDefEqProofs (disch := omega) [go_sem, -List.getD_eq_getElem?_getD, ite_yes, F]
                    refine AAny.done (by kernel_rfl) ?_
                    simp -dsimp -implicitDefEqProofs (disch := omega) [go_sem, -List.getD_eq_getElem?_getD, ite_yes, F]
                    refine ⟨_, _, ⟨(d + 1 + r, p.1, z, b), a7, s7, rfl, by omega, by omega, rfl⟩, weakS_sets [some 0, some 4] rfl ht (h.wms _ _ _ _) ?_ (by simp -dsimp -implicitDefEqProofs (disch := omega) [go_sem, -List.getD_eq_getElem?_getD, ite_yes, ht, htp])⟩
                    simp -dsimp -implicitDefEqProofs (disch := omega) [go_sem, -List.getD_eq_getElem?_getD, ite_yes, htp]
                    exact ⟨wl_net htp, .inl ⟨by simp [vlE], by simp [vlE, flat]⟩⟩
        · as_aux_lemma =>
            simp -dsimp -implicitDefEqProofs (disch := omega) [go_sem, -List.getD_eq_getElem?_getD, ite_yes, F]
            refine AAt.of (SubH.setN) ?_
            refine AAny.takes (fuel := 15) (by kernel_rfl) (by kernel_rfl) [17, 18, 19] (by kernel_rfl) (by kernel_rfl) ?_
            simp -dsimp -implicitDefEqProofs (disch := omega) [go_sem, -List.getD_eq_getElem?_getD, ite_yes, F]
            refine AAny.two 14 3 9 (by kernel_rfl) (by kernel_rfl) (by kernel_rfl) ?_ ?_
            · as_aux_lemma =>
                simp -dsimp -implicitDefEqProofs (disch := omega) [go_sem, -List.getD_eq_getElem?_getD, ite_yes, F]
                refine AAt.of (SubH.setN) ?_
                refine AAny.takes (fuel := 11) (by kernel_rfl) (by kernel_rfl) [5, 6, 7] (by kernel_rfl) (by kernel_rfl) ?_
                simp -dsimp -implicitDefEqProofs (disch := omega) [go_sem, -List.getD_eq_getElem?_getD, ite_yes, F]
                refine AAny.one1 10 9 ?_
                simp -dsimp -implicitDefEqProofs (disch := omega) [go_sem, -List.getD_eq_getElem?_getD, ite_yes, F]
                refine AAt.of (SubH.setN) ?_
                refine AAny.takes (fuel := 7) (by kernel_rfl) (by kernel_rfl) [11, 12, 13] (by kernel_rfl) (by kernel_rfl) ?_
                simp -dsimp -implicitDefEqProofs (disch := omega) [go_sem, -List.getD_eq_getElem?_getD, ite_yes, F]
                refine AAny.one1 6 20 ?_
                simp -dsimp -implicitDefEqProofs (disch := omega) [go_sem, -List.getD_eq_getElem?_getD, ite_yes, F]
                refine AAt.of (SubH.setN) ?_
                refine AAny.takes (fuel := 5) (by kernel_rfl) (by kernel_rfl) [22] (by kernel_rfl) (by kernel_rfl) ?_
                simp -dsimp -implicitDefEqProofs (disch := omega) [go_sem, -List.getD_eq_getElem?_getD, ite_yes, F]
                refine AAny.one1 4 23 ?_
                simp -dsimp -implicitDefEqProofs (disch := omega) [go_sem, -List.getD_eq_getElem?_getD, ite_yes, F]
                refine AAt.of (SubH.setN) ?_
                refine AAny.one1 3 26 ?_
                simp -dsimp -implicitDefEqProofs (disch := omega) [go_sem, -List.getD_eq_getElem?_getD, ite_yes, F]
                refine AAt.of (SubH.setN) ?_
                refine AAny.one1 2 27 ?_
                simp -dsimp -implicitDefEqProofs (disch := omega) [go_sem, -List.getD_eq_getElem?_getD, ite_yes, F]
                refine AAt.of (SubH.setN) ?_
                refine AAny.one1 1 28 ?_
                simp -dsimp -implicitDefEqProofs (disch := omega) [go_sem, -List.getD_eq_getElem?_getD, ite_yes, F]
                first | refine AAt.of (SubH.setN) ?_ | (refine ⟨?_, AAt.of (SubH.setN) ?_⟩; · omega)
                refine AAny.takes (fuel := 0) (by kernel_rfl) (by kernel_rfl) [29] (by kernel_rfl) (by kernel_rfl) ?_
                simp -dsimp -implicitDefEqProofs (disch := omega) [go_sem, -List.getD_eq_getElem?_getD, ite_yes, F]
                refine AAny.done (by kernel_rfl) ?_
                simp -dsimp -implicitDefEqProofs (disch := omega) [go_sem, -List.getD_eq_getElem?_getD, ite_yes, F]
                refine ⟨_, _, ⟨(d + 1 + r, p.1, z, b), a7, s7, rfl, by omega, by omega, rfl⟩, weakS_sets [some 0, some 4] rfl ht (h.wms _ _ _ _) ?_ (by simp -dsimp -implicitDefEqProofs (disch := omega) [go_sem, -List.getD_eq_getElem?_getD, ite_yes, ht, htp])⟩
                simp -dsimp -implicitDefEqProofs (disch := omega) [go_sem, -List.getD_eq_getElem?_getD, ite_yes, htp]
                exact ⟨wl_net htp, .inl ⟨by simp [vlE], by simp [vlE, flat]⟩⟩
            · as_aux_lemma =>
                simp -dsimp -implicitDefEqProofs (disch := omega) [go_sem, -List.getD_eq_getElem?_getD, ite_yes, F]
                refine AAt.of (SubH.setN) ?_
                refine AAny.takes (fuel := 11) (by kernel_rfl) (by kernel_rfl) [11, 12, 13] (by kernel_rfl) (by kernel_rfl) ?_
                simp -dsimp -implicitDefEqProofs (disch := omega) [go_sem, -List.getD_eq_getElem?_getD, ite_yes, F]
                refine AAny.two 10 3 20 (by kernel_rfl) (by kernel_rfl) (by kernel_rfl) ?_ ?_
                · simp -dsimp -implicitDefEqProofs (disch := omega) [go_sem, -List.getD_eq_getElem?_getD, ite_yes, F]
                  refine AAt.of (SubH.setN) ?_
                  refine AAny.takes (fuel := 7) (by kernel_rfl) (by kernel_rfl) [5, 6, 7] (by kernel_rfl) (by kernel_rfl) ?_
                  simp -dsimp -implicitDefEqProofs (disch := omega) [go_sem, -List.getD_eq_getElem?_getD, ite_yes, F]
                  refine AAny.one1 6 20 ?_
                  simp -dsimp -implicitDefEqProofs (disch := omega) [go_sem, -List.getD_eq_getElem?_getD, ite_yes, F]
                  refine AAt.of (SubH.setN) ?_
                  refine AAny.takes (fuel := 5) (by kernel_rfl) (by kernel_rfl) [22] (by kernel_rfl) (by kernel_rfl) ?_
                  simp -dsimp -implicitDefEqProofs (disch := omega) [go_sem, -List.getD_eq_getElem?_getD, ite_yes, F]
                  refine AAny.one1 4 23 ?_
                  simp -dsimp -implicitDefEqProofs (disch := omega) [go_sem, -List.getD_eq_getElem?_getD, ite_yes, F]
                  refine AAt.of (SubH.setN) ?_
                  refine AAny.one1 3 26 ?_
                  simp -dsimp -implicitDefEqProofs (disch := omega) [go_sem, -List.getD_eq_getElem?_getD, ite_yes, F]
                  refine AAt.of (SubH.setN) ?_
                  refine AAny.one1 2 27 ?_
                  simp -dsimp -implicitDefEqProofs (disch := omega) [go_sem, -List.getD_eq_getElem?_getD, ite_yes, F]
                  refine AAt.of (SubH.setN) ?_
                  refine AAny.one1 1 28 ?_
                  simp -dsimp -implicitDefEqProofs (disch := omega) [go_sem, -List.getD_eq_getElem?_getD, ite_yes, F]
                  first | refine AAt.of (SubH.setN) ?_ | (refine ⟨?_, AAt.of (SubH.setN) ?_⟩; · omega)
                  refine AAny.takes (fuel := 0) (by kernel_rfl) (by kernel_rfl) [29] (by kernel_rfl) (by kernel_rfl) ?_
                  simp -dsimp -implicitDefEqProofs (disch := omega) [go_sem, -List.getD_eq_getElem?_getD, ite_yes, F]
                  refine AAny.done (by kernel_rfl) ?_
                  simp -dsimp -implicitDefEqProofs (disch := omega) [go_sem, -List.getD_eq_getElem?_getD, ite_yes, F]
                  refine ⟨_, _, ⟨(d + 1 + r, p.1, z, b), a7, s7, rfl, by omega, by omega, rfl⟩, weakS_sets [some 0, some 4] rfl ht (h.wms _ _ _ _) ?_ (by simp -dsimp -implicitDefEqProofs (disch := omega) [go_sem, -List.getD_eq_getElem?_getD, ite_yes, ht, htp])⟩
                  simp -dsimp -implicitDefEqProofs (disch := omega) [go_sem, -List.getD_eq_getElem?_getD, ite_yes, htp]
                  exact ⟨wl_net htp, .inl ⟨by simp [vlE], by simp [vlE, flat]⟩⟩
                · simp -dsimp -implicitDefEqProofs (disch := omega) [go_sem, -List.getD_eq_getElem?_getD, ite_yes, F]
                  refine AAt.of (SubH.setN) ?_
                  refine AAny.takes (fuel := 9) (by kernel_rfl) (by kernel_rfl) [22] (by kernel_rfl) (by kernel_rfl) ?_
                  simp -dsimp -implicitDefEqProofs (disch := omega) [go_sem, -List.getD_eq_getElem?_getD, ite_yes, F]
                  refine AAny.two 8 3 23 (by kernel_rfl) (by kernel_rfl) (by kernel_rfl) ?_ ?_
                  · simp -dsimp -implicitDefEqProofs (disch := omega) [go_sem, -List.getD_eq_getElem?_getD, ite_yes, F]
                    refine AAt.of (SubH.setN) ?_
                    refine AAny.takes (fuel := 5) (by kernel_rfl) (by kernel_rfl) [5, 6, 7] (by kernel_rfl) (by kernel_rfl) ?_
                    simp -dsimp -implicitDefEqProofs (disch := omega) [go_sem, -List.getD_eq_getElem?_getD, ite_yes, F]
                    refine AAny.one1 4 23 ?_
                    simp -dsimp -implicitDefEqProofs (disch := omega) [go_sem, -List.getD_eq_getElem?_getD, ite_yes, F]
                    refine AAt.of (SubH.setN) ?_
                    refine AAny.one1 3 26 ?_
                    simp -dsimp -implicitDefEqProofs (disch := omega) [go_sem, -List.getD_eq_getElem?_getD, ite_yes, F]
                    refine AAt.of (SubH.setN) ?_
                    refine AAny.one1 2 27 ?_
                    simp -dsimp -implicitDefEqProofs (disch := omega) [go_sem, -List.getD_eq_getElem?_getD, ite_yes, F]
                    refine AAt.of (SubH.setN) ?_
                    refine AAny.one1 1 28 ?_
                    simp -dsimp -implicitDefEqProofs (disch := omega) [go_sem, -List.getD_eq_getElem?_getD, ite_yes, F]
                    first | refine AAt.of (SubH.setN) ?_ | (refine ⟨?_, AAt.of (SubH.setN) ?_⟩; · omega)
                    refine AAny.takes (fuel := 0) (by kernel_rfl) (by kernel_rfl) [29] (by kernel_rfl) (by kernel_rfl) ?_
                    simp -dsimp -implicitDefEqProofs (disch := omega) [go_sem, -List.getD_eq_getElem?_getD, ite_yes, F]
                    refine AAny.done (by kernel_rfl) ?_
                    simp -dsimp -implicitDefEqProofs (disch := omega) [go_sem, -List.getD_eq_getElem?_getD, ite_yes, F]
                    refine ⟨_, _, ⟨(d + 1 + r, p.1, z, b), a7, s7, rfl, by omega, by omega, rfl⟩, weakS_sets [some 0, some 4] rfl ht (h.wms _ _ _ _) ?_ (by simp -dsimp -implicitDefEqProofs (disch := omega) [go_sem, -List.getD_eq_getElem?_getD, ite_yes, ht, htp])⟩
                    simp -dsimp -implicitDefEqProofs (disch := omega) [go_sem, -List.getD_eq_getElem?_getD, ite_yes, htp]
                    exact ⟨wl_net htp, .inl ⟨by simp [vlE], by simp [vlE, flat]⟩⟩
                  · simp -dsimp -implicitDefEqProofs (disch := omega) [go_sem, -List.getD_eq_getElem?_getD, ite_yes, F]
                    refine AAt.of (SubH.setN) ?_
                    refine AAny.one1 7 3 ?_
                    simp -dsimp -implicitDefEqProofs (disch := omega) [go_sem, -List.getD_eq_getElem?_getD, ite_yes, F]
                    refine AAt.of (SubH.setN) ?_
                    refine AAny.takes (fuel := 4) (by kernel_rfl) (by kernel_rfl) [5, 6, 7] (by kernel_rfl) (by kernel_rfl) ?_
                    simp -dsimp -implicitDefEqProofs (disch := omega) [go_sem, -List.getD_eq_getElem?_getD, ite_yes, F]
                    refine AAny.one1 3 26 ?_
                    simp -dsimp -implicitDefEqProofs (disch := omega) [go_sem, -List.getD_eq_getElem?_getD, ite_yes, F]
                    refine AAt.of (SubH.setN) ?_
                    refine AAny.one1 2 27 ?_
                    simp -dsimp -implicitDefEqProofs (disch := omega) [go_sem, -List.getD_eq_getElem?_getD, ite_yes, F]
                    refine AAt.of (SubH.setN) ?_
                    refine AAny.one1 1 28 ?_
                    simp -dsimp -implicitDefEqProofs (disch := omega) [go_sem, -List.getD_eq_getElem?_getD, ite_yes, F]
                    first | refine AAt.of (SubH.setN) ?_ | (refine ⟨?_, AAt.of (SubH.setN) ?_⟩; · omega)
                    refine AAny.takes (fuel := 0) (by kernel_rfl) (by kernel_rfl) [29] (by kernel_rfl) (by kernel_rfl) ?_
                    simp -dsimp -implicitDefEqProofs (disch := omega) [go_sem, -List.getD_eq_getElem?_getD, ite_yes, F]
                    refine AAny.done (by kernel_rfl) ?_
                    simp -dsimp -implicitDefEqProofs (disch := omega) [go_sem, -List.getD_eq_getElem?_getD, ite_yes, F]
                    refine ⟨_, _, ⟨(d + 1 + r, p.1, z, b), a7, s7, rfl, by omega, by omega, rfl⟩, weakS_sets [some 0, some 4] rfl ht (h.wms _ _ _ _) ?_ (by simp -dsimp -implicitDefEqProofs (disch := omega) [go_sem, -List.getD_eq_getElem?_getD, ite_yes, ht, htp])⟩
                    simp -dsimp -implicitDefEqProofs (disch := omega) [go_sem, -List.getD_eq_getElem?_getD, ite_yes, htp]
                    exact ⟨wl_net htp, .inl ⟨by simp [vlE], by simp [vlE, flat]⟩⟩
  rintro _ _ ⟨v, a6, s6, rfl, q6, q6', rfl⟩
  have l1 : (l ++ [v]).length = l.length + 1 := by simp
  simp -dsimp -implicitDefEqProofs (disch := omega) [go_sem, -List.getD_eq_getElem?_getD, ite_yes, si]
  refine LoopEnd.of ⟨0, j + 1, l ++ [v], d + 1 + r, a6, s6⟩ ⟨by simp only; omega, by simp only; omega, by simp only; omega, by simp only; omega, by simp only; omega, by simp only; omega⟩ (by simp only; omega) (weakS_sets [some 0, some 1] rfl ht (h.wms _ _ _ _) ?_ (by simp -dsimp -implicitDefEqProofs (disch := omega) [go_sem, -List.getD_eq_getElem?_getD, ite_yes, ht, htp, l1]))
  simp -dsimp -implicitDefEqProofs (disch := omega) [go_sem, -List.getD_eq_getElem?_getD, ite_yes, htp]
  exact ⟨wl_net htp, .inl ⟨by simp [vlE], by simp [vlE, flat]⟩⟩
end Go.Proofs.YtncblopbcnkinaaGreat
