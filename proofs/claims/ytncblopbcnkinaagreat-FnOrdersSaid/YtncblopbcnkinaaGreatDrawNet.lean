/- Networks that are drawn. -/
import Derived.Test.YtncblopbcnkinaaGreatShort
import Derived.Test.YtncblopbcnkinaaGreatDraw
import Derived.Test.YtncblopbcnkinaaGreatNet
import Derived.Test.YtncblopbcnkinaaGreatAm18
namespace Go.Proofs.YtncblopbcnkinaaGreat
open Go.Am
set_option linter.unusedVariables false
set_option linter.unusedSimpArgs false
set_option maxRecDepth 100000
set_option maxHeartbeats 1000000

/-- a network whose pipes lie in a new block, behind which the cursor has gone on -/
def PNet (H : Heap) (t tc n cc : Nat) (at_ : Int) (v : Value) (H' : Heap) : Prop :=
  ∃ (N : Int) (l : List Pp) (a s : Int), v = netV N H.length l.length l.length ∧ 1 ≤ N ∧ N ≤ 7 ∧ l.length ≤ 10 ∧ at_ ≤ a ∧ a ≤ at_ + 200 ∧ H' = H.set t (curB tc n cc a s) ++ [some ⟨l.flatMap ppE, true, 78, 4⟩]
structure NtI where
  k : Nat
  l : List Pp
  d : Int
  a : Int
  s : Int
/-- a cell that holds a network -/
theorem wl_cell {m j u : Nat} {js : List (Option Nat)} {N : Int} {len c i : Nat} (hu : u < j) (hs : sg m js (m + u) = some (m + i)) : WL (sg m js) (m + j) [.int .i64 N, .slice (some ⟨m + u, 0, none⟩) len c] [.int .i64 N, .slice (some ⟨m + i, 0, none⟩) len c] :=
  .inr ⟨rfl, ⟨show m + u < m + j by omega, .inl ⟨m + i, c, hs, rfl⟩⟩, trivial⟩
theorem wl_cell0 {m j u : Nat} {js : List (Option Nat)} {N : Int} {c : Nat} (hu : u < j) (hs : sg m js (m + u) = none) : WL (sg m js) (m + j) [.int .i64 N, .slice (some ⟨m + u, 0, none⟩) 0 c] [.int .i64 N, .slice none 0 0] :=
  .inr ⟨rfl, ⟨show m + u < m + j by omega, .inr ⟨hs, rfl, rfl, rfl⟩⟩, trivial⟩
theorem network_R {H : Heap} {t tc n cc : Nat} {at_ seed : Int} (h : Cur H t tc n cc at_ seed) (hA : at_ ≤ 100000000000000000) :
    AFunR Tryz.prog 62 [.pointer (some ⟨t, 0, none⟩)] H (PNet H t tc n cc at_) := by
  refine AFunR.of_body Tryz.func62 (by kernel_rfl) rfl (by kernel_rfl) (by simp [Tryz.ntmps62]) ?_
  have ht := h.lt
  have p0 := h.pos
  have si := fun (x : Option Blk) (L : Heap) (y : Option Blk) => set_into (H := H) (L := L) (x := x) ht (y := y)
  have s0 := fun (L : Heap) (y : Option Blk) => set_into0 (H := H) (L := L) ht (y := y)
  simp -dsimp -implicitDefEqProofs (disch := omega) [go_sem, -List.getD_eq_getElem?_getD, ite_yes]
  refine ACall.via (pick_R (h.app _) (by omega) 7 (by omega)) ?_
  rintro _ _ ⟨r, rfl, r0, r1, a3, s3, q3, q3', rfl⟩
  obtain ⟨N, hN⟩ : ∃ N, N = 1 + r := ⟨_, rfl⟩
  have hN1 : 1 ≤ N ∧ N ≤ 7 := by omega
  simp -dsimp -implicitDefEqProofs (disch := omega) [go_sem, -List.getD_eq_getElem?_getD, ite_yes, s0, ← hN]
  refine ALoop.intro (ι := NtI) (fun i => 2 ≤ i.k ∧ (i.k : Int) ≤ max N 1 + 1 ∧ i.l.length + 2 ≤ i.k ∧ at_ ≤ i.a ∧ i.a ≤ at_ + 2 + 10 * ((i.k : Int) - 2) ∧ 0 ≤ i.d ∧ i.d ≤ 3 * ((i.k : Int) - 2)) (fun i => [(0, .pointer (some ⟨t, 0, none⟩)), (2, .pointer (some ⟨H.length, 0, none⟩)), (3, .pointer (some ⟨H.length + 1, 0, none⟩)), (4, .int .i64 i.d), (5, .int .i64 i.k)])
    (fun i => H.set t (curB tc n cc i.a i.s) ++ [some ⟨[.int .i64 0, .slice none 0 0], true, 26, 1⟩, some ⟨[.int .i64 N, .slice (some ⟨H.length + 2, 0, none⟩) i.l.length i.l.length], true, 26, 1⟩, some ⟨i.l.flatMap ppE, true, 78, 4⟩]) (fun i => (N + 1).toNat - i.k) ⟨2, [], 0, a3, s3⟩ ⟨by simp only; omega, by simp only; omega, by simp, by simp only; omega, by simp only; omega, by simp only; omega, by simp only; omega⟩ ?_ ?_
  · refine weakS_sets [some 0, some 1, none] rfl ht (h.wms _ _ _ _) ?_ (by simp -dsimp -implicitDefEqProofs (disch := omega) [go_sem, -List.getD_eq_getElem?_getD, ite_yes, ht])
    simp -dsimp -implicitDefEqProofs (disch := omega) [go_sem, -List.getD_eq_getElem?_getD, ite_yes]
    exact ⟨.inl ⟨rfl, rfl⟩, wl_cell0 (by omega) (by simp [sg])⟩
  rintro ⟨k, l, d, a, s⟩ ⟨i1, i2, i3, i4, i5, i6, i7⟩
  simp only at i1 i2 i3 i4 i5 i6 i7
  have lf := ppE_length l
  by_cases hk : (k : Int) ≤ N
  rotate_left
  · simp -dsimp -implicitDefEqProofs (disch := omega) [go_sem, -List.getD_eq_getElem?_getD, ite_yes, hk]
    refine ACall.via (pick_R ((h.step (by omega)).app _) (by omega) 4 (by omega)) ?_
    rintro _ _ ⟨r2, rfl, r20, r21, a4, s4, q4, q4', rfl⟩
    obtain ⟨m0, rfl⟩ : ∃ k : Nat, r2 = (k : Int) := ⟨r2.toNat, by omega⟩
    simp -dsimp -implicitDefEqProofs (disch := omega) [go_sem, -List.getD_eq_getElem?_getD, ite_yes, si]
    refine ALoop.intro (ι := NtI) (fun i => i.k ≤ 3 ∧ i.l.length ≤ 10 ∧ at_ ≤ i.a ∧ i.a + 6 * i.k ≤ at_ + 150 ∧ 0 ≤ i.d ∧ i.d + 3 * i.k ≤ 60) (fun i => [(0, .pointer (some ⟨t, 0, none⟩)), (2, .pointer (some ⟨H.length, 0, none⟩)), (3, .pointer (some ⟨H.length + 1, 0, none⟩)), (4, .int .i64 i.d), (7, .int .i64 i.k)])
      (fun i => H.set t (curB tc n cc i.a i.s) ++ [some ⟨[.int .i64 0, .slice none 0 0], true, 26, 1⟩, some ⟨[.int .i64 N, .slice (some ⟨H.length + 2, 0, none⟩) i.l.length i.l.length], true, 26, 1⟩, some ⟨i.l.flatMap ppE, true, 78, 4⟩]) (fun i => i.k) ⟨m0, l, d, a4, s4⟩ ⟨by simp only; omega, by simp only; omega, by simp only; omega, by simp only; omega, by simp only; omega, by simp only; omega⟩ ?_ ?_
    · refine weakS_sets [some 0, some 1, some 2] rfl ht (h.wms _ _ _ _) ?_ (by simp -dsimp -implicitDefEqProofs (disch := omega) [go_sem, -List.getD_eq_getElem?_getD, ite_yes, ht])
      simp -dsimp -implicitDefEqProofs (disch := omega) [go_sem, -List.getD_eq_getElem?_getD, ite_yes]
      exact ⟨.inl ⟨rfl, rfl⟩, wl_cell (by omega) (by simp [sg]), .inl ⟨rfl, ppE_flat _⟩⟩
    clear i1 i2 i3 i4 i5 i6 i7 lf hk
    rintro ⟨k, l, d, a, s⟩ ⟨i1, i2, i3, i4, i5, i6⟩
    simp only at i1 i2 i3 i4 i5 i6
    have lf := ppE_length l
    by_cases hgo : 0 < k ∧ 1 < N ∧ l.length < 10
    rotate_left
    · have hz : EndR H (PNet H t tc n cc at_) (netV N (H.length + 2) l.length l.length) (H.set t (curB tc n cc a s) ++ [some ⟨[.int .i64 N, .slice (some ⟨H.length + 2, 0, none⟩) l.length l.length], true, 26, 1⟩, some ⟨[.int .i64 N, .slice (some ⟨H.length + 2, 0, none⟩) l.length l.length], true, 26, 1⟩, some ⟨l.flatMap ppE, true, 78, 4⟩]) := by
        refine EndR.of (netV N H.length l.length l.length) _ ⟨N, l, a, s, rfl, hN1.1, hN1.2, i2, by omega, by omega, rfl⟩ (fin_sets [some 2] rfl ht (h.wms _ _ _ _) (by simp -dsimp -implicitDefEqProofs (disch := omega) [go_sem, -List.getD_eq_getElem?_getD, ite_yes]; exact .inl ⟨rfl, ppE_flat _⟩) (by simp -dsimp -implicitDefEqProofs (disch := omega) [go_sem, -List.getD_eq_getElem?_getD, ite_yes, ht]))
      by_cases g1 : 0 < k
      · by_cases g2 : 1 < N
        · have g3 : ¬ (l.length : Int) < 10 := by omega
          simp -dsimp -implicitDefEqProofs (disch := omega) [go_sem, -List.getD_eq_getElem?_getD, ite_yes, g1, g2, g3, ht]
          exact hz
        · simp -dsimp -implicitDefEqProofs (disch := omega) [go_sem, -List.getD_eq_getElem?_getD, ite_yes, g1, g2, ht]
          exact hz
      · simp -dsimp -implicitDefEqProofs (disch := omega) [go_sem, -List.getD_eq_getElem?_getD, ite_yes, g1, ht]
        exact hz
    obtain ⟨g1, g2, g3⟩ := hgo
    have g3' : (l.length : Int) < 10 := by omega
    obtain ⟨m, rfl⟩ : ∃ m, k = m + 1 := ⟨k - 1, by omega⟩
    have e6 : ((m + 1 : Nat) : Int) - 1 = (m : Int) := by omega
    simp -dsimp -implicitDefEqProofs (disch := omega) [go_sem, -List.getD_eq_getElem?_getD, ite_yes, g1, g2, g3', ht]
    refine ACall.via (pick_R ((h.step (by omega)).app _) (by omega) 3 (by omega)) ?_
    rintro _ _ ⟨r3, rfl, r30, r31, a5, s5, q5, q5', rfl⟩
    simp -dsimp -implicitDefEqProofs (disch := omega) [go_sem, -List.getD_eq_getElem?_getD, ite_yes, si, g1, g2, g3', ht]
    refine ACall.via (pick_R ((h.step (by omega)).app _) (by omega) N (by omega)) ?_
    rintro _ _ ⟨r4, rfl, r40, r41, a6, s6, q6, q6', rfl⟩
    have hN0 : ¬ N = 0 := by omega
    have e1 := Int.emod_nonneg (1 + r4) hN0
    have e2 := Int.emod_lt_of_pos (1 + r4) (show 0 < N by omega)
    refine ADraw.any [] (by kernel_rfl) (SubH.nil) ?_
    refine AAny.takes (fuel := 11) (by kernel_rfl) (by kernel_rfl) [0, 2, 3, 4, 5, 9] (by kernel_rfl) (by kernel_rfl) ?_
    simp -dsimp -implicitDefEqProofs (disch := omega) [go_sem, -List.getD_eq_getElem?_getD, ite_yes, si, ht, hN0, lf]
    refine AAny.three 10 1 6 10 (by kernel_rfl) (by kernel_rfl) (by kernel_rfl) ?_ ?_ ?_
    · simp -dsimp -implicitDefEqProofs (disch := omega) [go_sem, -List.getD_eq_getElem?_getD, ite_yes, si, ht, hN0, lf]
      refine AAt.of (SubH.nil) ?_
      refine AAny.two 9 6 10 (by kernel_rfl) (by kernel_rfl) (by kernel_rfl) ?_ ?_
      · simp -dsimp -implicitDefEqProofs (disch := omega) [go_sem, -List.getD_eq_getElem?_getD, ite_yes, si, ht, hN0, lf]
        refine AAt.of (SubH.nil) ?_
        refine AAny.takes (fuel := 7) (by kernel_rfl) (by kernel_rfl) [7, 8] (by kernel_rfl) (by kernel_rfl) ?_
        simp -dsimp -implicitDefEqProofs (disch := omega) [go_sem, -List.getD_eq_getElem?_getD, ite_yes, si, ht, hN0, lf]
        refine AAny.one1 6 10 ?_
        simp -dsimp -implicitDefEqProofs (disch := omega) [go_sem, -List.getD_eq_getElem?_getD, ite_yes, si, ht, hN0, lf]
        refine ACall.via (pick_R ((h.step (by omega)).app _) (by omega) 9 (by omega)) ?_
        rintro _ _ ⟨r5, rfl, r50, r51, a7, s7, q7, q7', rfl⟩
        simp -dsimp -implicitDefEqProofs (disch := omega) [go_sem, -List.getD_eq_getElem?_getD, ite_yes, si, ht, hN0, lf]
        refine AAt.of (SubH.nil) ?_
        refine AAny.takes (fuel := 5) (by kernel_rfl) (by kernel_rfl) [11] (by kernel_rfl) (by kernel_rfl) ?_
        simp -dsimp -implicitDefEqProofs (disch := omega) [go_sem, -List.getD_eq_getElem?_getD, ite_yes, si, ht, hN0, lf]
        refine AAny.one1 4 12 ?_
        simp -dsimp -implicitDefEqProofs (disch := omega) [go_sem, -List.getD_eq_getElem?_getD, ite_yes, si, ht, hN0, lf]
        refine AAt.of (SubH.nil) ?_
        refine AAny.one1 3 13 ?_
        simp -dsimp -implicitDefEqProofs (disch := omega) [go_sem, -List.getD_eq_getElem?_getD, ite_yes, si, ht, hN0, lf]
        refine AAt.of (SubH.nil) ?_
        refine AAny.one1 2 14 ?_
        simp -dsimp -implicitDefEqProofs (disch := omega) [go_sem, -List.getD_eq_getElem?_getD, ite_yes, si, ht, hN0, lf]
        first | refine AAt.of (SubH.nil) ?_ | (refine ⟨?_, AAt.of (SubH.nil) ?_⟩; · omega)
        refine AAny.takes (fuel := 1) (by kernel_rfl) (by kernel_rfl) [15] (by kernel_rfl) (by kernel_rfl) ?_
        simp -dsimp -implicitDefEqProofs (disch := omega) [go_sem, -List.getD_eq_getElem?_getD, ite_yes, si, ht, hN0, lf]
        refine AAny.one1 0 16 ?_
        simp -dsimp -implicitDefEqProofs (disch := omega) [go_sem, -List.getD_eq_getElem?_getD, ite_yes, si, ht, hN0, lf]
        refine AAt.of (SubH.nil) ?_
        refine AAny.done (by kernel_rfl) ?_
        simp -dsimp -implicitDefEqProofs (disch := omega) [go_sem, -List.getD_eq_getElem?_getD, ite_yes, si, ht, hN0, lf]
        refine LoopEnd.of ⟨m, l ++ [(d + 1 + r3, 1 + r4, 1 + (1 + r4) % N, 1 + r5)], d + 1 + r3, a7, s7⟩ ⟨by simp only; omega, by simp; omega, by simp only; omega, by simp only; omega, by simp only; omega, by simp only; omega⟩ (by simp only; omega) (weakS_sets [some 0, some 1, some 4] rfl ht (h.wms _ _ _ _) ?_ (by simp -dsimp -implicitDefEqProofs (disch := omega) [go_sem, -List.getD_eq_getElem?_getD, ite_yes, ht]))
        simp -dsimp -implicitDefEqProofs (disch := omega) [go_sem, -List.getD_eq_getElem?_getD, ite_yes, ht]
        exact ⟨.inl ⟨rfl, rfl⟩, wl_cell (by omega) (by simp [sg]), .inl ⟨by simp [ppE], by simp [ppE, flat]⟩⟩
      · simp -dsimp -implicitDefEqProofs (disch := omega) [go_sem, -List.getD_eq_getElem?_getD, ite_yes, si, ht, hN0, lf]
        refine ACall.via (pick_R ((h.step (by omega)).app _) (by omega) 9 (by omega)) ?_
        rintro _ _ ⟨r5, rfl, r50, r51, a7, s7, q7, q7', rfl⟩
        simp -dsimp -implicitDefEqProofs (disch := omega) [go_sem, -List.getD_eq_getElem?_getD, ite_yes, si, ht, hN0, lf]
        refine AAt.of (SubH.nil) ?_
        refine AAny.takes (fuel := 8) (by kernel_rfl) (by kernel_rfl) [11] (by kernel_rfl) (by kernel_rfl) ?_
        simp -dsimp -implicitDefEqProofs (disch := omega) [go_sem, -List.getD_eq_getElem?_getD, ite_yes, si, ht, hN0, lf]
        refine AAny.one1 7 6 ?_
        simp -dsimp -implicitDefEqProofs (disch := omega) [go_sem, -List.getD_eq_getElem?_getD, ite_yes, si, ht, hN0, lf]
        refine AAt.of (SubH.nil) ?_
        refine AAny.takes (fuel := 5) (by kernel_rfl) (by kernel_rfl) [7, 8] (by kernel_rfl) (by kernel_rfl) ?_
        simp -dsimp -implicitDefEqProofs (disch := omega) [go_sem, -List.getD_eq_getElem?_getD, ite_yes, si, ht, hN0, lf]
        refine AAny.one1 4 12 ?_
        simp -dsimp -implicitDefEqProofs (disch := omega) [go_sem, -List.getD_eq_getElem?_getD, ite_yes, si, ht, hN0, lf]
        refine AAt.of (SubH.nil) ?_
        refine AAny.one1 3 13 ?_
        simp -dsimp -implicitDefEqProofs (disch := omega) [go_sem, -List.getD_eq_getElem?_getD, ite_yes, si, ht, hN0, lf]
        refine AAt.of (SubH.nil) ?_
        refine AAny.one1 2 14 ?_
        simp -dsimp -implicitDefEqProofs (disch := omega) [go_sem, -List.getD_eq_getElem?_getD, ite_yes, si, ht, hN0, lf]
        first | refine AAt.of (SubH.nil) ?_ | (refine ⟨?_, AAt.of (SubH.nil) ?_⟩; · omega)
        refine AAny.takes (fuel := 1) (by kernel_rfl) (by kernel_rfl) [15] (by kernel_rfl) (by kernel_rfl) ?_
        simp -dsimp -implicitDefEqProofs (disch := omega) [go_sem, -List.getD_eq_getElem?_getD, ite_yes, si, ht, hN0, lf]
        refine AAny.one1 0 16 ?_
        simp -dsimp -implicitDefEqProofs (disch := omega) [go_sem, -List.getD_eq_getElem?_getD, ite_yes, si, ht, hN0, lf]
        refine AAt.of (SubH.nil) ?_
        refine AAny.done (by kernel_rfl) ?_
        simp -dsimp -implicitDefEqProofs (disch := omega) [go_sem, -List.getD_eq_getElem?_getD, ite_yes, si, ht, hN0, lf]
        refine LoopEnd.of ⟨m, l ++ [(d + 1 + r3, 1 + r4, 1 + (1 + r4) % N, 1 + r5)], d + 1 + r3, a7, s7⟩ ⟨by simp only; omega, by simp; omega, by simp only; omega, by simp only; omega, by simp only; omega, by simp only; omega⟩ (by simp only; omega) (weakS_sets [some 0, some 1, some 4] rfl ht (h.wms _ _ _ _) ?_ (by simp -dsimp -implicitDefEqProofs (disch := omega) [go_sem, -List.getD_eq_getElem?_getD, ite_yes, ht]))
        simp -dsimp -implicitDefEqProofs (disch := omega) [go_sem, -List.getD_eq_getElem?_getD, ite_yes, ht]
        exact ⟨.inl ⟨rfl, rfl⟩, wl_cell (by omega) (by simp [sg]), .inl ⟨by simp [ppE], by simp [ppE, flat]⟩⟩
    · simp -dsimp -implicitDefEqProofs (disch := omega) [go_sem, -List.getD_eq_getElem?_getD, ite_yes, si, ht, hN0, lf]
      refine AAt.of (SubH.nil) ?_
      refine AAny.takes (fuel := 8) (by kernel_rfl) (by kernel_rfl) [7, 8] (by kernel_rfl) (by kernel_rfl) ?_
      simp -dsimp -implicitDefEqProofs (disch := omega) [go_sem, -List.getD_eq_getElem?_getD, ite_yes, si, ht, hN0, lf]
      refine AAny.two 7 1 10 (by kernel_rfl) (by kernel_rfl) (by kernel_rfl) ?_ ?_
      · simp -dsimp -implicitDefEqProofs (disch := omega) [go_sem, -List.getD_eq_getElem?_getD, ite_yes, si, ht, hN0, lf]
        refine AAt.of (SubH.nil) ?_
        refine AAny.one1 6 10 ?_
        simp -dsimp -implicitDefEqProofs (disch := omega) [go_sem, -List.getD_eq_getElem?_getD, ite_yes, si, ht, hN0, lf]
        refine ACall.via (pick_R ((h.step (by omega)).app _) (by omega) 9 (by omega)) ?_
        rintro _ _ ⟨r5, rfl, r50, r51, a7, s7, q7, q7', rfl⟩
        simp -dsimp -implicitDefEqProofs (disch := omega) [go_sem, -List.getD_eq_getElem?_getD, ite_yes, si, ht, hN0, lf]
        refine AAt.of (SubH.nil) ?_
        refine AAny.takes (fuel := 5) (by kernel_rfl) (by kernel_rfl) [11] (by kernel_rfl) (by kernel_rfl) ?_
        simp -dsimp -implicitDefEqProofs (disch := omega) [go_sem, -List.getD_eq_getElem?_getD, ite_yes, si, ht, hN0, lf]
        refine AAny.one1 4 12 ?_
        simp -dsimp -implicitDefEqProofs (disch := omega) [go_sem, -List.getD_eq_getElem?_getD, ite_yes, si, ht, hN0, lf]
        refine AAt.of (SubH.nil) ?_
        refine AAny.one1 3 13 ?_
        simp -dsimp -implicitDefEqProofs (disch := omega) [go_sem, -List.getD_eq_getElem?_getD, ite_yes, si, ht, hN0, lf]
        refine AAt.of (SubH.nil) ?_
        refine AAny.one1 2 14 ?_
        simp -dsimp -implicitDefEqProofs (disch := omega) [go_sem, -List.getD_eq_getElem?_getD, ite_yes, si, ht, hN0, lf]
        first | refine AAt.of (SubH.nil) ?_ | (refine ⟨?_, AAt.of (SubH.nil) ?_⟩; · omega)
        refine AAny.takes (fuel := 1) (by kernel_rfl) (by kernel_rfl) [15] (by kernel_rfl) (by kernel_rfl) ?_
        simp -dsimp -implicitDefEqProofs (disch := omega) [go_sem, -List.getD_eq_getElem?_getD, ite_yes, si, ht, hN0, lf]
        refine AAny.one1 0 16 ?_
        simp -dsimp -implicitDefEqProofs (disch := omega) [go_sem, -List.getD_eq_getElem?_getD, ite_yes, si, ht, hN0, lf]
        refine AAt.of (SubH.nil) ?_
        refine AAny.done (by kernel_rfl) ?_
        simp -dsimp -implicitDefEqProofs (disch := omega) [go_sem, -List.getD_eq_getElem?_getD, ite_yes, si, ht, hN0, lf]
        refine LoopEnd.of ⟨m, l ++ [(d + 1 + r3, 1 + r4, 1 + (1 + r4) % N, 1 + r5)], d + 1 + r3, a7, s7⟩ ⟨by simp only; omega, by simp; omega, by simp only; omega, by simp only; omega, by simp only; omega, by simp only; omega⟩ (by simp only; omega) (weakS_sets [some 0, some 1, some 4] rfl ht (h.wms _ _ _ _) ?_ (by simp -dsimp -implicitDefEqProofs (disch := omega) [go_sem, -List.getD_eq_getElem?_getD, ite_yes, ht]))
        simp -dsimp -implicitDefEqProofs (disch := omega) [go_sem, -List.getD_eq_getElem?_getD, ite_yes, ht]
        exact ⟨.inl ⟨rfl, rfl⟩, wl_cell (by omega) (by simp [sg]), .inl ⟨by simp [ppE], by simp [ppE, flat]⟩⟩
      · simp -dsimp -implicitDefEqProofs (disch := omega) [go_sem, -List.getD_eq_getElem?_getD, ite_yes, si, ht, hN0, lf]
        refine ACall.via (pick_R ((h.step (by omega)).app _) (by omega) 9 (by omega)) ?_
        rintro _ _ ⟨r5, rfl, r50, r51, a7, s7, q7, q7', rfl⟩
        simp -dsimp -implicitDefEqProofs (disch := omega) [go_sem, -List.getD_eq_getElem?_getD, ite_yes, si, ht, hN0, lf]
        refine AAt.of (SubH.nil) ?_
        refine AAny.takes (fuel := 6) (by kernel_rfl) (by kernel_rfl) [11] (by kernel_rfl) (by kernel_rfl) ?_
        simp -dsimp -implicitDefEqProofs (disch := omega) [go_sem, -List.getD_eq_getElem?_getD, ite_yes, si, ht, hN0, lf]
        refine AAny.two 5 1 12 (by kernel_rfl) (by kernel_rfl) (by kernel_rfl) ?_ ?_
        · simp -dsimp -implicitDefEqProofs (disch := omega) [go_sem, -List.getD_eq_getElem?_getD, ite_yes, si, ht, hN0, lf]
          refine AAt.of (SubH.nil) ?_
          refine AAny.one1 4 12 ?_
          simp -dsimp -implicitDefEqProofs (disch := omega) [go_sem, -List.getD_eq_getElem?_getD, ite_yes, si, ht, hN0, lf]
          refine AAt.of (SubH.nil) ?_
          refine AAny.one1 3 13 ?_
          simp -dsimp -implicitDefEqProofs (disch := omega) [go_sem, -List.getD_eq_getElem?_getD, ite_yes, si, ht, hN0, lf]
          refine AAt.of (SubH.nil) ?_
          refine AAny.one1 2 14 ?_
          simp -dsimp -implicitDefEqProofs (disch := omega) [go_sem, -List.getD_eq_getElem?_getD, ite_yes, si, ht, hN0, lf]
          first | refine AAt.of (SubH.nil) ?_ | (refine ⟨?_, AAt.of (SubH.nil) ?_⟩; · omega)
          refine AAny.takes (fuel := 1) (by kernel_rfl) (by kernel_rfl) [15] (by kernel_rfl) (by kernel_rfl) ?_
          simp -dsimp -implicitDefEqProofs (disch := omega) [go_sem, -List.getD_eq_getElem?_getD, ite_yes, si, ht, hN0, lf]
          refine AAny.one1 0 16 ?_
          simp -dsimp -implicitDefEqProofs (disch := omega) [go_sem, -List.getD_eq_getElem?_getD, ite_yes, si, ht, hN0, lf]
          refine AAt.of (SubH.nil) ?_
          refine AAny.done (by kernel_rfl) ?_
          simp -dsimp -implicitDefEqProofs (disch := omega) [go_sem, -List.getD_eq_getElem?_getD, ite_yes, si, ht, hN0, lf]
          refine LoopEnd.of ⟨m, l ++ [(d + 1 + r3, 1 + r4, 1 + (1 + r4) % N, 1 + r5)], d + 1 + r3, a7, s7⟩ ⟨by simp only; omega, by simp; omega, by simp only; omega, by simp only; omega, by simp only; omega, by simp only; omega⟩ (by simp only; omega) (weakS_sets [some 0, some 1, some 4] rfl ht (h.wms _ _ _ _) ?_ (by simp -dsimp -implicitDefEqProofs (disch := omega) [go_sem, -List.getD_eq_getElem?_getD, ite_yes, ht]))
          simp -dsimp -implicitDefEqProofs (disch := omega) [go_sem, -List.getD_eq_getElem?_getD, ite_yes, ht]
          exact ⟨.inl ⟨rfl, rfl⟩, wl_cell (by omega) (by simp [sg]), .inl ⟨by simp [ppE], by simp [ppE, flat]⟩⟩
        · simp -dsimp -implicitDefEqProofs (disch := omega) [go_sem, -List.getD_eq_getElem?_getD, ite_yes, si, ht, hN0, lf]
          refine AAt.of (SubH.nil) ?_
          refine AAny.two 4 1 13 (by kernel_rfl) (by kernel_rfl) (by kernel_rfl) ?_ ?_
          · simp -dsimp -implicitDefEqProofs (disch := omega) [go_sem, -List.getD_eq_getElem?_getD, ite_yes, si, ht, hN0, lf]
            refine AAt.of (SubH.nil) ?_
            refine AAny.one1 3 13 ?_
            simp -dsimp -implicitDefEqProofs (disch := omega) [go_sem, -List.getD_eq_getElem?_getD, ite_yes, si, ht, hN0, lf]
            refine AAt.of (SubH.nil) ?_
            refine AAny.one1 2 14 ?_
            simp -dsimp -implicitDefEqProofs (disch := omega) [go_sem, -List.getD_eq_getElem?_getD, ite_yes, si, ht, hN0, lf]
            first | refine AAt.of (SubH.nil) ?_ | (refine ⟨?_, AAt.of (SubH.nil) ?_⟩; · omega)
            refine AAny.takes (fuel := 1) (by kernel_rfl) (by kernel_rfl) [15] (by kernel_rfl) (by kernel_rfl) ?_
            simp -dsimp -implicitDefEqProofs (disch := omega) [go_sem, -List.getD_eq_getElem?_getD, ite_yes, si, ht, hN0, lf]
            refine AAny.one1 0 16 ?_
            simp -dsimp -implicitDefEqProofs (disch := omega) [go_sem, -List.getD_eq_getElem?_getD, ite_yes, si, ht, hN0, lf]
            refine AAt.of (SubH.nil) ?_
            refine AAny.done (by kernel_rfl) ?_
            simp -dsimp -implicitDefEqProofs (disch := omega) [go_sem, -List.getD_eq_getElem?_getD, ite_yes, si, ht, hN0, lf]
            refine LoopEnd.of ⟨m, l ++ [(d + 1 + r3, 1 + r4, 1 + (1 + r4) % N, 1 + r5)], d + 1 + r3, a7, s7⟩ ⟨by simp only; omega, by simp; omega, by simp only; omega, by simp only; omega, by simp only; omega, by simp only; omega⟩ (by simp only; omega) (weakS_sets [some 0, some 1, some 4] rfl ht (h.wms _ _ _ _) ?_ (by simp -dsimp -implicitDefEqProofs (disch := omega) [go_sem, -List.getD_eq_getElem?_getD, ite_yes, ht]))
            simp -dsimp -implicitDefEqProofs (disch := omega) [go_sem, -List.getD_eq_getElem?_getD, ite_yes, ht]
            exact ⟨.inl ⟨rfl, rfl⟩, wl_cell (by omega) (by simp [sg]), .inl ⟨by simp [ppE], by simp [ppE, flat]⟩⟩
          · simp -dsimp -implicitDefEqProofs (disch := omega) [go_sem, -List.getD_eq_getElem?_getD, ite_yes, si, ht, hN0, lf]
            refine AAt.of (SubH.nil) ?_
            refine AAny.one1 3 1 ?_
            simp -dsimp -implicitDefEqProofs (disch := omega) [go_sem, -List.getD_eq_getElem?_getD, ite_yes, si, ht, hN0, lf]
            refine AAt.of (SubH.nil) ?_
            refine AAny.one1 2 14 ?_
            simp -dsimp -implicitDefEqProofs (disch := omega) [go_sem, -List.getD_eq_getElem?_getD, ite_yes, si, ht, hN0, lf]
            first | refine AAt.of (SubH.nil) ?_ | (refine ⟨?_, AAt.of (SubH.nil) ?_⟩; · omega)
            refine AAny.takes (fuel := 1) (by kernel_rfl) (by kernel_rfl) [15] (by kernel_rfl) (by kernel_rfl) ?_
            simp -dsimp -implicitDefEqProofs (disch := omega) [go_sem, -List.getD_eq_getElem?_getD, ite_yes, si, ht, hN0, lf]
            refine AAny.one1 0 16 ?_
            simp -dsimp -implicitDefEqProofs (disch := omega) [go_sem, -List.getD_eq_getElem?_getD, ite_yes, si, ht, hN0, lf]
            refine AAt.of (SubH.nil) ?_
            refine AAny.done (by kernel_rfl) ?_
            simp -dsimp -implicitDefEqProofs (disch := omega) [go_sem, -List.getD_eq_getElem?_getD, ite_yes, si, ht, hN0, lf]
            refine LoopEnd.of ⟨m, l ++ [(d + 1 + r3, 1 + r4, 1 + (1 + r4) % N, 1 + r5)], d + 1 + r3, a7, s7⟩ ⟨by simp only; omega, by simp; omega, by simp only; omega, by simp only; omega, by simp only; omega, by simp only; omega⟩ (by simp only; omega) (weakS_sets [some 0, some 1, some 4] rfl ht (h.wms _ _ _ _) ?_ (by simp -dsimp -implicitDefEqProofs (disch := omega) [go_sem, -List.getD_eq_getElem?_getD, ite_yes, ht]))
            simp -dsimp -implicitDefEqProofs (disch := omega) [go_sem, -List.getD_eq_getElem?_getD, ite_yes, ht]
            exact ⟨.inl ⟨rfl, rfl⟩, wl_cell (by omega) (by simp [sg]), .inl ⟨by simp [ppE], by simp [ppE, flat]⟩⟩
    · simp -dsimp -implicitDefEqProofs (disch := omega) [go_sem, -List.getD_eq_getElem?_getD, ite_yes, si, ht, hN0, lf]
      refine ACall.via (pick_R ((h.step (by omega)).app _) (by omega) 9 (by omega)) ?_
      rintro _ _ ⟨r5, rfl, r50, r51, a7, s7, q7, q7', rfl⟩
      simp -dsimp -implicitDefEqProofs (disch := omega) [go_sem, -List.getD_eq_getElem?_getD, ite_yes, si, ht, hN0, lf]
      refine AAt.of (SubH.nil) ?_
      refine AAny.takes (fuel := 9) (by kernel_rfl) (by kernel_rfl) [11] (by kernel_rfl) (by kernel_rfl) ?_
      simp -dsimp -implicitDefEqProofs (disch := omega) [go_sem, -List.getD_eq_getElem?_getD, ite_yes, si, ht, hN0, lf]
      refine AAny.two 8 1 6 (by kernel_rfl) (by kernel_rfl) (by kernel_rfl) ?_ ?_
      · simp -dsimp -implicitDefEqProofs (disch := omega) [go_sem, -List.getD_eq_getElem?_getD, ite_yes, si, ht, hN0, lf]
        refine AAt.of (SubH.nil) ?_
        refine AAny.one1 7 6 ?_
        simp -dsimp -implicitDefEqProofs (disch := omega) [go_sem, -List.getD_eq_getElem?_getD, ite_yes, si, ht, hN0, lf]
        refine AAt.of (SubH.nil) ?_
        refine AAny.takes (fuel := 5) (by kernel_rfl) (by kernel_rfl) [7, 8] (by kernel_rfl) (by kernel_rfl) ?_
        simp -dsimp -implicitDefEqProofs (disch := omega) [go_sem, -List.getD_eq_getElem?_getD, ite_yes, si, ht, hN0, lf]
        refine AAny.one1 4 12 ?_
        simp -dsimp -implicitDefEqProofs (disch := omega) [go_sem, -List.getD_eq_getElem?_getD, ite_yes, si, ht, hN0, lf]
        refine AAt.of (SubH.nil) ?_
        refine AAny.one1 3 13 ?_
        simp -dsimp -implicitDefEqProofs (disch := omega) [go_sem, -List.getD_eq_getElem?_getD, ite_yes, si, ht, hN0, lf]
        refine AAt.of (SubH.nil) ?_
        refine AAny.one1 2 14 ?_
        simp -dsimp -implicitDefEqProofs (disch := omega) [go_sem, -List.getD_eq_getElem?_getD, ite_yes, si, ht, hN0, lf]
        first | refine AAt.of (SubH.nil) ?_ | (refine ⟨?_, AAt.of (SubH.nil) ?_⟩; · omega)
        refine AAny.takes (fuel := 1) (by kernel_rfl) (by kernel_rfl) [15] (by kernel_rfl) (by kernel_rfl) ?_
        simp -dsimp -implicitDefEqProofs (disch := omega) [go_sem, -List.getD_eq_getElem?_getD, ite_yes, si, ht, hN0, lf]
        refine AAny.one1 0 16 ?_
        simp -dsimp -implicitDefEqProofs (disch := omega) [go_sem, -List.getD_eq_getElem?_getD, ite_yes, si, ht, hN0, lf]
        refine AAt.of (SubH.nil) ?_
        refine AAny.done (by kernel_rfl) ?_
        simp -dsimp -implicitDefEqProofs (disch := omega) [go_sem, -List.getD_eq_getElem?_getD, ite_yes, si, ht, hN0, lf]
        refine LoopEnd.of ⟨m, l ++ [(d + 1 + r3, 1 + r4, 1 + (1 + r4) % N, 1 + r5)], d + 1 + r3, a7, s7⟩ ⟨by simp only; omega, by simp; omega, by simp only; omega, by simp only; omega, by simp only; omega, by simp only; omega⟩ (by simp only; omega) (weakS_sets [some 0, some 1, some 4] rfl ht (h.wms _ _ _ _) ?_ (by simp -dsimp -implicitDefEqProofs (disch := omega) [go_sem, -List.getD_eq_getElem?_getD, ite_yes, ht]))
        simp -dsimp -implicitDefEqProofs (disch := omega) [go_sem, -List.getD_eq_getElem?_getD, ite_yes, ht]
        exact ⟨.inl ⟨rfl, rfl⟩, wl_cell (by omega) (by simp [sg]), .inl ⟨by simp [ppE], by simp [ppE, flat]⟩⟩
      · simp -dsimp -implicitDefEqProofs (disch := omega) [go_sem, -List.getD_eq_getElem?_getD, ite_yes, si, ht, hN0, lf]
        refine AAt.of (SubH.nil) ?_
        refine AAny.takes (fuel := 6) (by kernel_rfl) (by kernel_rfl) [7, 8] (by kernel_rfl) (by kernel_rfl) ?_
        simp -dsimp -implicitDefEqProofs (disch := omega) [go_sem, -List.getD_eq_getElem?_getD, ite_yes, si, ht, hN0, lf]
        refine AAny.two 5 1 12 (by kernel_rfl) (by kernel_rfl) (by kernel_rfl) ?_ ?_
        · simp -dsimp -implicitDefEqProofs (disch := omega) [go_sem, -List.getD_eq_getElem?_getD, ite_yes, si, ht, hN0, lf]
          refine AAt.of (SubH.nil) ?_
          refine AAny.one1 4 12 ?_
          simp -dsimp -implicitDefEqProofs (disch := omega) [go_sem, -List.getD_eq_getElem?_getD, ite_yes, si, ht, hN0, lf]
          refine AAt.of (SubH.nil) ?_
          refine AAny.one1 3 13 ?_
          simp -dsimp -implicitDefEqProofs (disch := omega) [go_sem, -List.getD_eq_getElem?_getD, ite_yes, si, ht, hN0, lf]
          refine AAt.of (SubH.nil) ?_
          refine AAny.one1 2 14 ?_
          simp -dsimp -implicitDefEqProofs (disch := omega) [go_sem, -List.getD_eq_getElem?_getD, ite_yes, si, ht, hN0, lf]
          first | refine AAt.of (SubH.nil) ?_ | (refine ⟨?_, AAt.of (SubH.nil) ?_⟩; · omega)
          refine AAny.takes (fuel := 1) (by kernel_rfl) (by kernel_rfl) [15] (by kernel_rfl) (by kernel_rfl) ?_
          simp -dsimp -implicitDefEqProofs (disch := omega) [go_sem, -List.getD_eq_getElem?_getD, ite_yes, si, ht, hN0, lf]
          refine AAny.one1 0 16 ?_
          simp -dsimp -implicitDefEqProofs (disch := omega) [go_sem, -List.getD_eq_getElem?_getD, ite_yes, si, ht, hN0, lf]
          refine AAt.of (SubH.nil) ?_
          refine AAny.done (by kernel_rfl) ?_
          simp -dsimp -implicitDefEqProofs (disch := omega) [go_sem, -List.getD_eq_getElem?_getD, ite_yes, si, ht, hN0, lf]
          refine LoopEnd.of ⟨m, l ++ [(d + 1 + r3, 1 + r4, 1 + (1 + r4) % N, 1 + r5)], d + 1 + r3, a7, s7⟩ ⟨by simp only; omega, by simp; omega, by simp only; omega, by simp only; omega, by simp only; omega, by simp only; omega⟩ (by simp only; omega) (weakS_sets [some 0, some 1, some 4] rfl ht (h.wms _ _ _ _) ?_ (by simp -dsimp -implicitDefEqProofs (disch := omega) [go_sem, -List.getD_eq_getElem?_getD, ite_yes, ht]))
          simp -dsimp -implicitDefEqProofs (disch := omega) [go_sem, -List.getD_eq_getElem?_getD, ite_yes, ht]
          exact ⟨.inl ⟨rfl, rfl⟩, wl_cell (by omega) (by simp [sg]), .inl ⟨by simp [ppE], by simp [ppE, flat]⟩⟩
        · simp -dsimp -implicitDefEqProofs (disch := omega) [go_sem, -List.getD_eq_getElem?_getD, ite_yes, si, ht, hN0, lf]
          refine AAt.of (SubH.nil) ?_
          refine AAny.two 4 1 13 (by kernel_rfl) (by kernel_rfl) (by kernel_rfl) ?_ ?_
          · simp -dsimp -implicitDefEqProofs (disch := omega) [go_sem, -List.getD_eq_getElem?_getD, ite_yes, si, ht, hN0, lf]
            refine AAt.of (SubH.nil) ?_
            refine AAny.one1 3 13 ?_
            simp -dsimp -implicitDefEqProofs (disch := omega) [go_sem, -List.getD_eq_getElem?_getD, ite_yes, si, ht, hN0, lf]
            refine AAt.of (SubH.nil) ?_
            refine AAny.one1 2 14 ?_
            simp -dsimp -implicitDefEqProofs (disch := omega) [go_sem, -List.getD_eq_getElem?_getD, ite_yes, si, ht, hN0, lf]
            first | refine AAt.of (SubH.nil) ?_ | (refine ⟨?_, AAt.of (SubH.nil) ?_⟩; · omega)
            refine AAny.takes (fuel := 1) (by kernel_rfl) (by kernel_rfl) [15] (by kernel_rfl) (by kernel_rfl) ?_
            simp -dsimp -implicitDefEqProofs (disch := omega) [go_sem, -List.getD_eq_getElem?_getD, ite_yes, si, ht, hN0, lf]
            refine AAny.one1 0 16 ?_
            simp -dsimp -implicitDefEqProofs (disch := omega) [go_sem, -List.getD_eq_getElem?_getD, ite_yes, si, ht, hN0, lf]
            refine AAt.of (SubH.nil) ?_
            refine AAny.done (by kernel_rfl) ?_
            simp -dsimp -implicitDefEqProofs (disch := omega) [go_sem, -List.getD_eq_getElem?_getD, ite_yes, si, ht, hN0, lf]
            refine LoopEnd.of ⟨m, l ++ [(d + 1 + r3, 1 + r4, 1 + (1 + r4) % N, 1 + r5)], d + 1 + r3, a7, s7⟩ ⟨by simp only; omega, by simp; omega, by simp only; omega, by simp only; omega, by simp only; omega, by simp only; omega⟩ (by simp only; omega) (weakS_sets [some 0, some 1, some 4] rfl ht (h.wms _ _ _ _) ?_ (by simp -dsimp -implicitDefEqProofs (disch := omega) [go_sem, -List.getD_eq_getElem?_getD, ite_yes, ht]))
            simp -dsimp -implicitDefEqProofs (disch := omega) [go_sem, -List.getD_eq_getElem?_getD, ite_yes, ht]
            exact ⟨.inl ⟨rfl, rfl⟩, wl_cell (by omega) (by simp [sg]), .inl ⟨by simp [ppE], by simp [ppE, flat]⟩⟩
          · simp -dsimp -implicitDefEqProofs (disch := omega) [go_sem, -List.getD_eq_getElem?_getD, ite_yes, si, ht, hN0, lf]
            refine AAt.of (SubH.nil) ?_
            refine AAny.one1 3 1 ?_
            simp -dsimp -implicitDefEqProofs (disch := omega) [go_sem, -List.getD_eq_getElem?_getD, ite_yes, si, ht, hN0, lf]
            refine AAt.of (SubH.nil) ?_
            refine AAny.one1 2 14 ?_
            simp -dsimp -implicitDefEqProofs (disch := omega) [go_sem, -List.getD_eq_getElem?_getD, ite_yes, si, ht, hN0, lf]
            first | refine AAt.of (SubH.nil) ?_ | (refine ⟨?_, AAt.of (SubH.nil) ?_⟩; · omega)
            refine AAny.takes (fuel := 1) (by kernel_rfl) (by kernel_rfl) [15] (by kernel_rfl) (by kernel_rfl) ?_
            simp -dsimp -implicitDefEqProofs (disch := omega) [go_sem, -List.getD_eq_getElem?_getD, ite_yes, si, ht, hN0, lf]
            refine AAny.one1 0 16 ?_
            simp -dsimp -implicitDefEqProofs (disch := omega) [go_sem, -List.getD_eq_getElem?_getD, ite_yes, si, ht, hN0, lf]
            refine AAt.of (SubH.nil) ?_
            refine AAny.done (by kernel_rfl) ?_
            simp -dsimp -implicitDefEqProofs (disch := omega) [go_sem, -List.getD_eq_getElem?_getD, ite_yes, si, ht, hN0, lf]
            refine LoopEnd.of ⟨m, l ++ [(d + 1 + r3, 1 + r4, 1 + (1 + r4) % N, 1 + r5)], d + 1 + r3, a7, s7⟩ ⟨by simp only; omega, by simp; omega, by simp only; omega, by simp only; omega, by simp only; omega, by simp only; omega⟩ (by simp only; omega) (weakS_sets [some 0, some 1, some 4] rfl ht (h.wms _ _ _ _) ?_ (by simp -dsimp -implicitDefEqProofs (disch := omega) [go_sem, -List.getD_eq_getElem?_getD, ite_yes, ht]))
            simp -dsimp -implicitDefEqProofs (disch := omega) [go_sem, -List.getD_eq_getElem?_getD, ite_yes, ht]
            exact ⟨.inl ⟨rfl, rfl⟩, wl_cell (by omega) (by simp [sg]), .inl ⟨by simp [ppE], by simp [ppE, flat]⟩⟩
  simp -dsimp -implicitDefEqProofs (disch := omega) [go_sem, -List.getD_eq_getElem?_getD, ite_yes, hk]
  refine ACall.via (one_R ((h.step (by omega)).app _) (by omega) 10 (by omega)) ?_
  rintro _ _ ⟨b, rfl, a4, s4, q4, q4', rfl⟩
  cases b
  rotate_left
  · simp -dsimp -implicitDefEqProofs (disch := omega) [go_sem, -List.getD_eq_getElem?_getD, ite_yes, si]
    refine LoopEnd.of ⟨k + 1, l, d, a4, s4⟩ ⟨by simp only; omega, by simp only; omega, by simp only; omega, by simp only; omega, by simp only; omega, by simp only; omega, by simp only; omega⟩ (by simp only; omega) (weakS_sets [some 0, some 1, some 2] rfl ht (h.wms _ _ _ _) ?_ (by simp -dsimp -implicitDefEqProofs (disch := omega) [go_sem, -List.getD_eq_getElem?_getD, ite_yes, ht]))
    simp -dsimp -implicitDefEqProofs (disch := omega) [go_sem, -List.getD_eq_getElem?_getD, ite_yes]
    exact ⟨.inl ⟨rfl, rfl⟩, wl_cell (by omega) (by simp [sg]), .inl ⟨rfl, ppE_flat _⟩⟩
  simp -dsimp -implicitDefEqProofs (disch := omega) [go_sem, -List.getD_eq_getElem?_getD, ite_yes, si]
  refine ACall.via (pick_R ((h.step (by omega)).app _) (by omega) 3 (by omega)) ?_
  rintro _ _ ⟨r3, rfl, r30, r31, a5, s5, q5, q5', rfl⟩
  simp -dsimp -implicitDefEqProofs (disch := omega) [go_sem, -List.getD_eq_getElem?_getD, ite_yes, si]
  refine ACall.via (pick_R ((h.step (by omega)).app _) (by omega) ((k : Int) - 1) (by omega)) ?_
  rintro _ _ ⟨r4, rfl, r40, r41, a6, s6, q6, q6', rfl⟩
  simp -dsimp -implicitDefEqProofs (disch := omega) [go_sem, -List.getD_eq_getElem?_getD, ite_yes, si]
  refine ACall.via (pick_R ((h.step (by omega)).app _) (by omega) 9 (by omega)) ?_
  rintro _ _ ⟨r5, rfl, r50, r51, a7, s7, q7, q7', rfl⟩
  simp -dsimp -implicitDefEqProofs (disch := omega) [go_sem, -List.getD_eq_getElem?_getD, ite_yes, si]
  refine ACall.via (one_R ((h.step (by omega)).app _) (by omega) 2 (by omega)) ?_
  rintro _ _ ⟨b, rfl, a8, s8, q8, q8', rfl⟩
  cases b
  · simp -dsimp -implicitDefEqProofs (disch := omega) [go_sem, -List.getD_eq_getElem?_getD, ite_yes, si, lf]
    refine ⟨by omega, LoopEnd.of ⟨k + 1, l ++ [(d + 1 + r3, 1 + r4, (k : Int), 1 + r5)], d + 1 + r3, a8, s8⟩ ⟨by simp only; omega, by simp only; omega, by simp; omega, by simp only; omega, by simp only; omega, by simp only; omega, by simp only; omega⟩ (by simp only; omega) (weakS_sets [some 0, some 1, some 5] rfl ht (h.wms _ _ _ _) ?_ (by simp -dsimp -implicitDefEqProofs (disch := omega) [go_sem, -List.getD_eq_getElem?_getD, ite_yes, ht]))⟩
    simp -dsimp -implicitDefEqProofs (disch := omega) [go_sem, -List.getD_eq_getElem?_getD, ite_yes, ht]
    exact ⟨.inl ⟨rfl, rfl⟩, wl_cell (by omega) (by simp [sg]), .inl ⟨by simp [ppE], by simp [ppE, flat]⟩⟩
  · simp -dsimp -implicitDefEqProofs (disch := omega) [go_sem, -List.getD_eq_getElem?_getD, ite_yes, si, lf]
    refine ⟨by omega, LoopEnd.of ⟨k + 1, l ++ [(d + 1 + r3, (k : Int), 1 + r4, 1 + r5)], d + 1 + r3, a8, s8⟩ ⟨by simp only; omega, by simp only; omega, by simp; omega, by simp only; omega, by simp only; omega, by simp only; omega, by simp only; omega⟩ (by simp only; omega) (weakS_sets [some 0, some 1, some 5] rfl ht (h.wms _ _ _ _) ?_ (by simp -dsimp -implicitDefEqProofs (disch := omega) [go_sem, -List.getD_eq_getElem?_getD, ite_yes, ht]))⟩
    simp -dsimp -implicitDefEqProofs (disch := omega) [go_sem, -List.getD_eq_getElem?_getD, ite_yes, ht]
    exact ⟨.inl ⟨rfl, rfl⟩, wl_cell (by omega) (by simp [sg]), .inl ⟨by simp [ppE], by simp [ppE, flat]⟩⟩
end Go.Proofs.YtncblopbcnkinaaGreat
