/- Networks that are drawn and may be invalid. -/
import Derived.Test.YtncblopbcnkinaaGreatShort
import Derived.Test.YtncblopbcnkinaaGreatDrawNet
import Derived.Test.YtncblopbcnkinaaGreatFrac
namespace Go.Proofs.YtncblopbcnkinaaGreat
open Go.Am
set_option linter.unusedVariables false
set_option linter.unusedSimpArgs false
set_option maxRecDepth 100000
set_option maxHeartbeats 1000000

/-- a network that may be invalid, whose pipes lie in a new block, behind which the cursor has gone on -/
def PAny (H : Heap) (t tc n cc : Nat) (at_ : Int) (v : Value) (H' : Heap) : Prop :=
  ∃ (N : Int) (l : List Pp) (a s : Int), v = netV N H.length l.length l.length ∧ 0 ≤ N ∧ N ≤ 9 ∧ l.length ≤ 30 ∧ at_ ≤ a ∧ a ≤ at_ + 300 ∧ H' = H.set t (curB tc n cc a s) ++ [some ⟨l.flatMap ppE, true, 78, 4⟩]
def AnyR (H : Heap) (t tc n cc : Nat) (at_ a N : Int) (l : List Pp) (k : Nat) (fr1 : Fr) (H1 : Heap) : Prop :=
  ∃ (a' s' : Int) (b : Bool), fr1 = [(0, .pointer (some ⟨t, 0, none⟩)), (2, .pointer (some ⟨H.length, 0, none⟩)), (3, .pointer (some ⟨H.length + 2, 0, none⟩)), (5, .int .i64 k), (65, .bool b)] ∧ (b = true → k < 12) ∧ at_ ≤ a' ∧ a' ≤ a + 2 ∧ H1 = H.set t (curB tc n cc a' s') ++ [some ⟨[.int .i64 0, .slice none 0 0], true, 26, 1⟩, some ⟨l.flatMap ppE, true, 78, 4⟩, some ⟨[.int .i64 N, .slice (some ⟨H.length + 1, 0, none⟩) l.length l.length], true, 26, 1⟩]
theorem anyNetwork_R {H : Heap} {t tc n cc : Nat} {at_ seed : Int} (h : Cur H t tc n cc at_ seed) (hA : at_ ≤ 100000000000000) :
    AFunR Tryz.prog 35 [.pointer (some ⟨t, 0, none⟩)] H (PAny H t tc n cc at_) := by
  refine AFunR.of_body Tryz.func35 (by kernel_rfl) rfl (by kernel_rfl) (by simp [Tryz.ntmps35]) ?_
  have ht := h.lt
  have p0 := h.pos
  have si := fun (x : Option Blk) (L : Heap) (y : Option Blk) => set_into (H := H) (L := L) (x := x) ht (y := y)
  have s0 := fun (L : Heap) (y : Option Blk) => set_into0 (H := H) (L := L) ht (y := y)
  simp -dsimp -implicitDefEqProofs (disch := omega) [go_sem, -List.getD_eq_getElem?_getD, ite_yes]
  refine ACall.via (network_R (h.app _) (by omega)) ?_
  rintro _ _ ⟨N, l, a3, s3, rfl, hN1, hN2, hl, q3, q3', rfl⟩
  have lf := ppE_length l
  simp -dsimp -implicitDefEqProofs (disch := omega) [go_sem, -List.getD_eq_getElem?_getD, ite_yes, s0]
  refine ACall.via (pick_R ((h.step (by omega)).app _) (by omega) 24 (by omega)) ?_
  rintro _ _ ⟨r, rfl, r0, r1, a4, s4, q4, q4', rfl⟩
  simp -dsimp -implicitDefEqProofs (disch := omega) [go_sem, -List.getD_eq_getElem?_getD, ite_yes, si]
  refine AIf.of (fun w0 => ?_) (fun w0 => ?_)
  · simp -dsimp -implicitDefEqProofs (disch := omega) [go_sem, -List.getD_eq_getElem?_getD, ite_yes]
    refine ACall.via (among_R ((h.step (by omega)).app _) (by omega) [0, 9, 8, 1] (by simp) (by simp) _ _ (by omega) (Sl.nthS 4 rfl rfl)) ?_
    rintro _ _ ⟨y, rfl, ym, a6, s6, q6, q6', rfl⟩
    have y09 : 0 ≤ y ∧ y ≤ 9 := by simp at ym; omega
    simp -dsimp -implicitDefEqProofs (disch := omega) [go_sem, -List.getD_eq_getElem?_getD, ite_yes, si, ht]
    refine EndR.of (netV y H.length (l).length (l).length) (H.set t (curB tc n cc a6 s6) ++ [some ⟨(l).flatMap ppE, true, 78, 4⟩]) ⟨y, l, a6, s6, rfl, by omega, by omega, by first | omega | (simp; omega), by omega, by omega, rfl⟩ (fin_sets [some 1] rfl ht (h.wms _ _ _ _) ?_ (by simp -dsimp -implicitDefEqProofs (disch := omega) [go_sem, -List.getD_eq_getElem?_getD, ite_yes, ht]))
    simp -dsimp -implicitDefEqProofs (disch := omega) [go_sem, -List.getD_eq_getElem?_getD, ite_yes]
    exact .inl ⟨rfl, ppE_flat _⟩
  simp -dsimp -implicitDefEqProofs (disch := omega) [go_sem, -List.getD_eq_getElem?_getD, ite_yes]
  refine AIf.of (fun w1 => ?_) (fun w1 => ?_)
  · simp -dsimp -implicitDefEqProofs (disch := omega) [go_sem, -List.getD_eq_getElem?_getD, ite_yes]
    refine ACall.via (among_R ((h.step (by omega)).app _) (by omega) [1, 100, 99] (by simp) (by simp) _ _ (by omega) (Sl.nthS 4 rfl rfl)) ?_
    rintro _ _ ⟨y, rfl, ym, a6, s6, q6, q6', rfl⟩
    simp -dsimp -implicitDefEqProofs (disch := omega) [go_sem, -List.getD_eq_getElem?_getD, ite_yes, si, ht, lf]
    refine ⟨by omega, ?_⟩
    refine EndR.of (netV N H.length (l ++ [(y, 1, 2, 1)]).length (l ++ [(y, 1, 2, 1)]).length) (H.set t (curB tc n cc a6 s6) ++ [some ⟨(l ++ [(y, 1, 2, 1)]).flatMap ppE, true, 78, 4⟩]) ⟨N, l ++ [(y, 1, 2, 1)], a6, s6, rfl, by omega, by omega, by first | omega | (simp; omega), by omega, by omega, rfl⟩ (fin_sets [some 6] rfl ht (h.wms _ _ _ _) ?_ (by simp -dsimp -implicitDefEqProofs (disch := omega) [go_sem, -List.getD_eq_getElem?_getD, ite_yes, ht]))
    simp -dsimp -implicitDefEqProofs (disch := omega) [go_sem, -List.getD_eq_getElem?_getD, ite_yes]
    exact .inl ⟨by simp [ppE], by simp [ppE, flat]⟩
  simp -dsimp -implicitDefEqProofs (disch := omega) [go_sem, -List.getD_eq_getElem?_getD, ite_yes]
  refine AIf.of (fun w2 => ?_) (fun w2 => ?_)
  · simp -dsimp -implicitDefEqProofs (disch := omega) [go_sem, -List.getD_eq_getElem?_getD, ite_yes]
    refine ACall.via (among_R ((h.step (by omega)).app _) (by omega) [0, 10] (by simp) (by simp) _ _ (by omega) (Sl.nthS 4 rfl rfl)) ?_
    rintro _ _ ⟨y, rfl, ym, a6, s6, q6, q6', rfl⟩
    simp -dsimp -implicitDefEqProofs (disch := omega) [go_sem, -List.getD_eq_getElem?_getD, ite_yes, si, ht, lf]
    refine ⟨by omega, ?_⟩
    refine EndR.of (netV N H.length (l ++ [(99, 1, 2, y)]).length (l ++ [(99, 1, 2, y)]).length) (H.set t (curB tc n cc a6 s6) ++ [some ⟨(l ++ [(99, 1, 2, y)]).flatMap ppE, true, 78, 4⟩]) ⟨N, l ++ [(99, 1, 2, y)], a6, s6, rfl, by omega, by omega, by first | omega | (simp; omega), by omega, by omega, rfl⟩ (fin_sets [some 6] rfl ht (h.wms _ _ _ _) ?_ (by simp -dsimp -implicitDefEqProofs (disch := omega) [go_sem, -List.getD_eq_getElem?_getD, ite_yes, ht]))
    simp -dsimp -implicitDefEqProofs (disch := omega) [go_sem, -List.getD_eq_getElem?_getD, ite_yes]
    exact .inl ⟨by simp [ppE], by simp [ppE, flat]⟩
  simp -dsimp -implicitDefEqProofs (disch := omega) [go_sem, -List.getD_eq_getElem?_getD, ite_yes]
  refine AIf.of (fun w3 => ?_) (fun w3 => ?_)
  · simp -dsimp -implicitDefEqProofs (disch := omega) [go_sem, -List.getD_eq_getElem?_getD, ite_yes]
    refine ACall.via (among_R ((h.step (by omega)).app _) (by omega) [1, 9, 0] (by simp) (by simp) _ _ (by omega) (Sl.nthS 4 rfl rfl)) ?_
    rintro _ _ ⟨y, rfl, ym, a6, s6, q6, q6', rfl⟩
    simp -dsimp -implicitDefEqProofs (disch := omega) [go_sem, -List.getD_eq_getElem?_getD, ite_yes, si, ht, lf]
    refine ⟨by omega, ?_⟩
    refine EndR.of (netV N H.length (l ++ [(99, 1, y, 1)]).length (l ++ [(99, 1, y, 1)]).length) (H.set t (curB tc n cc a6 s6) ++ [some ⟨(l ++ [(99, 1, y, 1)]).flatMap ppE, true, 78, 4⟩]) ⟨N, l ++ [(99, 1, y, 1)], a6, s6, rfl, by omega, by omega, by first | omega | (simp; omega), by omega, by omega, rfl⟩ (fin_sets [some 6] rfl ht (h.wms _ _ _ _) ?_ (by simp -dsimp -implicitDefEqProofs (disch := omega) [go_sem, -List.getD_eq_getElem?_getD, ite_yes, ht]))
    simp -dsimp -implicitDefEqProofs (disch := omega) [go_sem, -List.getD_eq_getElem?_getD, ite_yes]
    exact .inl ⟨by simp [ppE], by simp [ppE, flat]⟩
  simp -dsimp -implicitDefEqProofs (disch := omega) [go_sem, -List.getD_eq_getElem?_getD, ite_yes]
  refine AIf.of (fun w4 => ?_) (fun w4 => ?_)
  rotate_left
  · simp -dsimp -implicitDefEqProofs (disch := omega) [go_sem, -List.getD_eq_getElem?_getD, ite_yes, ht]
    refine EndR.of (netV N H.length (l).length (l).length) (H.set t (curB tc n cc a4 s4) ++ [some ⟨(l).flatMap ppE, true, 78, 4⟩]) ⟨N, l, a4, s4, rfl, by omega, by omega, by first | omega | (simp; omega), by omega, by omega, rfl⟩ (fin_sets [some 1] rfl ht (h.wms _ _ _ _) ?_ (by simp -dsimp -implicitDefEqProofs (disch := omega) [go_sem, -List.getD_eq_getElem?_getD, ite_yes, ht]))
    simp -dsimp -implicitDefEqProofs (disch := omega) [go_sem, -List.getD_eq_getElem?_getD, ite_yes]
    exact .inl ⟨rfl, ppE_flat _⟩
  simp -dsimp -implicitDefEqProofs (disch := omega) [go_sem, -List.getD_eq_getElem?_getD, ite_yes]
  refine ALoop.intro (ι := NtI) (fun i => i.k ≤ 12 ∧ i.l.length ≤ 10 + i.k ∧ at_ ≤ i.a ∧ i.a ≤ at_ + 202 + 2 * i.k) (fun i => [(0, .pointer (some ⟨t, 0, none⟩)), (2, .pointer (some ⟨H.length, 0, none⟩)), (3, .pointer (some ⟨H.length + 2, 0, none⟩)), (5, .int .i64 i.k)])
    (fun i => H.set t (curB tc n cc i.a i.s) ++ [some ⟨[.int .i64 0, .slice none 0 0], true, 26, 1⟩, some ⟨i.l.flatMap ppE, true, 78, 4⟩, some ⟨[.int .i64 N, .slice (some ⟨H.length + 1, 0, none⟩) i.l.length i.l.length], true, 26, 1⟩]) (fun i => 13 - i.k) ⟨0, l, 0, a4, s4⟩ ⟨by simp only; omega, by simp only; omega, by simp only; omega, by simp only; omega⟩ ?_ ?_
  · refine weakS_sets [some 0, some 1, some 2] rfl ht (h.wms _ _ _ _) ?_ (by simp -dsimp -implicitDefEqProofs (disch := omega) [go_sem, -List.getD_eq_getElem?_getD, ite_yes, ht])
    simp -dsimp -implicitDefEqProofs (disch := omega) [go_sem, -List.getD_eq_getElem?_getD, ite_yes]
    exact ⟨.inl ⟨rfl, rfl⟩, .inl ⟨rfl, ppE_flat _⟩, wl_cell (by omega) (by simp [sg])⟩
  clear lf hl
  rintro ⟨k, l, _, a, s⟩ ⟨i1, i2, i3, i4⟩
  simp only at i1 i2 i3 i4
  have lf := ppE_length l
  have hz : EndR H (PAny H t tc n cc at_) (netV N (H.length + 1) l.length l.length) (H.set t (curB tc n cc a s) ++ [some ⟨[.int .i64 N, .slice (some ⟨H.length + 1, 0, none⟩) l.length l.length], true, 26, 1⟩, some ⟨l.flatMap ppE, true, 78, 4⟩, some ⟨[.int .i64 N, .slice (some ⟨H.length + 1, 0, none⟩) l.length l.length], true, 26, 1⟩]) := by
    refine EndR.of (netV N H.length (l).length (l).length) (H.set t (curB tc n cc a s) ++ [some ⟨(l).flatMap ppE, true, 78, 4⟩]) ⟨N, l, a, s, rfl, by omega, by omega, by first | omega | (simp; omega), by omega, by omega, rfl⟩ (fin_sets [some 1] rfl ht (h.wms _ _ _ _) ?_ (by simp -dsimp -implicitDefEqProofs (disch := omega) [go_sem, -List.getD_eq_getElem?_getD, ite_yes, ht]))
    simp -dsimp -implicitDefEqProofs (disch := omega) [go_sem, -List.getD_eq_getElem?_getD, ite_yes]
    exact .inl ⟨rfl, ppE_flat _⟩
  obtain ⟨B, hB⟩ : ∃ B : Bool, B = decide ((k : Int) < 12) := ⟨_, rfl⟩
  simp -dsimp -implicitDefEqProofs (disch := omega) [go_sem, -List.getD_eq_getElem?_getD, ite_yes]
  refine ADraw.midR (AnyR H t tc n cc at_ a N l k) ?_ ?_
  · refine ADraw.any [] (by kernel_rfl) (SubH.nil) ?_
    refine AAny.takes (fuel := 9) (by kernel_rfl) (by kernel_rfl) [0, 3] (by kernel_rfl) (by kernel_rfl) ?_
    simp -dsimp -implicitDefEqProofs (disch := omega) [go_sem, -List.getD_eq_getElem?_getD, ite_yes, si, ht, lf]
    refine AAny.two 8 1 4 (by kernel_rfl) (by kernel_rfl) (by kernel_rfl) ?_ ?_
    · simp -dsimp -implicitDefEqProofs (disch := omega) [go_sem, -List.getD_eq_getElem?_getD, ite_yes, si, ht, lf]
      refine AAt.of (SubH.nil) ?_
      refine AAny.takes (fuel := 7) (by kernel_rfl) (by kernel_rfl) [2] (by kernel_rfl) (by kernel_rfl) ?_
      simp -dsimp -implicitDefEqProofs (disch := omega) [go_sem, -List.getD_eq_getElem?_getD, ite_yes, si, ht, lf]
      refine AAny.one 6 4 (by kernel_rfl) (by kernel_rfl) (by kernel_rfl) ?_
      simp -dsimp -implicitDefEqProofs (disch := omega) [go_sem, -List.getD_eq_getElem?_getD, ite_yes, si, ht, lf]
      refine ACall.via (pick_R ((h.step (by omega)).app _) (by omega) 2 (by omega)) ?_
      rintro _ _ ⟨r5, rfl, r50, r51, a7, s7, q7, q7', rfl⟩
      simp -dsimp -implicitDefEqProofs (disch := omega) [go_sem, -List.getD_eq_getElem?_getD, ite_yes, si, ht, lf]
      by_cases h5 : (l.length : Int) < 10 + r5
      · by_cases h6 : (k : Int) < 12
        · refine AAt.of (SubH.nil) ?_
          refine AAny.takes (fuel := 0) (by kernel_rfl) (by kernel_rfl) [5, 6, 7, 8, 9, 10] (by kernel_rfl) (by kernel_rfl) ?_
          simp -dsimp -implicitDefEqProofs (disch := omega) [go_sem, -List.getD_eq_getElem?_getD, ite_yes, si, ht, lf, h5, h6]
          refine AAny.done (by kernel_rfl) ?_
          simp -dsimp -implicitDefEqProofs (disch := omega) [go_sem, -List.getD_eq_getElem?_getD, ite_yes, si, ht, lf, h5, h6]
          exact ⟨_, _, ⟨a7, s7, true, rfl, (fun _ => by omega), by omega, by omega, rfl⟩, weakS_sets [some 0, some 1, some 2] rfl ht (h.wms _ _ _ _) (by simp -dsimp -implicitDefEqProofs (disch := omega) [go_sem, -List.getD_eq_getElem?_getD, ite_yes]; exact ⟨.inl ⟨rfl, rfl⟩, .inl ⟨rfl, ppE_flat _⟩, wl_cell (by omega) (by simp [sg])⟩) (by simp -dsimp -implicitDefEqProofs (disch := omega) [go_sem, -List.getD_eq_getElem?_getD, ite_yes, ht])⟩
        · refine AAt.of (SubH.nil) ?_
          refine AAny.takes (fuel := 0) (by kernel_rfl) (by kernel_rfl) [5, 6, 7, 8, 9, 10] (by kernel_rfl) (by kernel_rfl) ?_
          simp -dsimp -implicitDefEqProofs (disch := omega) [go_sem, -List.getD_eq_getElem?_getD, ite_yes, si, ht, lf, h5, h6]
          refine AAny.done (by kernel_rfl) ?_
          simp -dsimp -implicitDefEqProofs (disch := omega) [go_sem, -List.getD_eq_getElem?_getD, ite_yes, si, ht, lf, h5, h6]
          exact ⟨_, _, ⟨a7, s7, false, rfl, (fun h => Bool.noConfusion h), by omega, by omega, rfl⟩, weakS_sets [some 0, some 1, some 2] rfl ht (h.wms _ _ _ _) (by simp -dsimp -implicitDefEqProofs (disch := omega) [go_sem, -List.getD_eq_getElem?_getD, ite_yes]; exact ⟨.inl ⟨rfl, rfl⟩, .inl ⟨rfl, ppE_flat _⟩, wl_cell (by omega) (by simp [sg])⟩) (by simp -dsimp -implicitDefEqProofs (disch := omega) [go_sem, -List.getD_eq_getElem?_getD, ite_yes, ht])⟩
      · refine AAt.of (SubH.nil) ?_
        refine AAny.takes (fuel := 0) (by kernel_rfl) (by kernel_rfl) [5, 6, 7, 8, 9, 10] (by kernel_rfl) (by kernel_rfl) ?_
        simp -dsimp -implicitDefEqProofs (disch := omega) [go_sem, -List.getD_eq_getElem?_getD, ite_yes, si, ht, lf, h5]
        refine AAny.done (by kernel_rfl) ?_
        simp -dsimp -implicitDefEqProofs (disch := omega) [go_sem, -List.getD_eq_getElem?_getD, ite_yes, si, ht, lf, h5]
        exact ⟨_, _, ⟨a7, s7, false, rfl, (fun h => Bool.noConfusion h), by omega, by omega, rfl⟩, weakS_sets [some 0, some 1, some 2] rfl ht (h.wms _ _ _ _) (by simp -dsimp -implicitDefEqProofs (disch := omega) [go_sem, -List.getD_eq_getElem?_getD, ite_yes]; exact ⟨.inl ⟨rfl, rfl⟩, .inl ⟨rfl, ppE_flat _⟩, wl_cell (by omega) (by simp [sg])⟩) (by simp -dsimp -implicitDefEqProofs (disch := omega) [go_sem, -List.getD_eq_getElem?_getD, ite_yes, ht])⟩
    · simp -dsimp -implicitDefEqProofs (disch := omega) [go_sem, -List.getD_eq_getElem?_getD, ite_yes, si, ht, lf]
      refine ACall.via (pick_R ((h.step (by omega)).app _) (by omega) 2 (by omega)) ?_
      rintro _ _ ⟨r5, rfl, r50, r51, a7, s7, q7, q7', rfl⟩
      simp -dsimp -implicitDefEqProofs (disch := omega) [go_sem, -List.getD_eq_getElem?_getD, ite_yes, si, ht, lf]
      by_cases h5 : (l.length : Int) < 10 + r5
      · by_cases h6 : (k : Int) < 12
        · refine AAt.of (SubH.nil) ?_
          refine AAny.takes (fuel := 7) (by kernel_rfl) (by kernel_rfl) [5] (by kernel_rfl) (by kernel_rfl) ?_
          simp -dsimp -implicitDefEqProofs (disch := omega) [go_sem, -List.getD_eq_getElem?_getD, ite_yes, si, ht, lf, h5, h6]
          refine AAny.one 6 1 (by kernel_rfl) (by kernel_rfl) (by kernel_rfl) ?_
          simp -dsimp -implicitDefEqProofs (disch := omega) [go_sem, -List.getD_eq_getElem?_getD, ite_yes, si, ht, lf, h5, h6]
          refine AAt.of (SubH.nil) ?_
          refine AAny.takes (fuel := 0) (by kernel_rfl) (by kernel_rfl) [2, 6, 7, 8, 9, 10] (by kernel_rfl) (by kernel_rfl) ?_
          simp -dsimp -implicitDefEqProofs (disch := omega) [go_sem, -List.getD_eq_getElem?_getD, ite_yes, si, ht, lf, h5, h6]
          refine AAny.done (by kernel_rfl) ?_
          simp -dsimp -implicitDefEqProofs (disch := omega) [go_sem, -List.getD_eq_getElem?_getD, ite_yes, si, ht, lf, h5, h6]
          exact ⟨_, _, ⟨a7, s7, true, rfl, (fun _ => by omega), by omega, by omega, rfl⟩, weakS_sets [some 0, some 1, some 2] rfl ht (h.wms _ _ _ _) (by simp -dsimp -implicitDefEqProofs (disch := omega) [go_sem, -List.getD_eq_getElem?_getD, ite_yes]; exact ⟨.inl ⟨rfl, rfl⟩, .inl ⟨rfl, ppE_flat _⟩, wl_cell (by omega) (by simp [sg])⟩) (by simp -dsimp -implicitDefEqProofs (disch := omega) [go_sem, -List.getD_eq_getElem?_getD, ite_yes, ht])⟩
        · refine AAt.of (SubH.nil) ?_
          refine AAny.takes (fuel := 7) (by kernel_rfl) (by kernel_rfl) [5] (by kernel_rfl) (by kernel_rfl) ?_
          simp -dsimp -implicitDefEqProofs (disch := omega) [go_sem, -List.getD_eq_getElem?_getD, ite_yes, si, ht, lf, h5, h6]
          refine AAny.one 6 1 (by kernel_rfl) (by kernel_rfl) (by kernel_rfl) ?_
          simp -dsimp -implicitDefEqProofs (disch := omega) [go_sem, -List.getD_eq_getElem?_getD, ite_yes, si, ht, lf, h5, h6]
          refine AAt.of (SubH.nil) ?_
          refine AAny.takes (fuel := 0) (by kernel_rfl) (by kernel_rfl) [2, 6, 7, 8, 9, 10] (by kernel_rfl) (by kernel_rfl) ?_
          simp -dsimp -implicitDefEqProofs (disch := omega) [go_sem, -List.getD_eq_getElem?_getD, ite_yes, si, ht, lf, h5, h6]
          refine AAny.done (by kernel_rfl) ?_
          simp -dsimp -implicitDefEqProofs (disch := omega) [go_sem, -List.getD_eq_getElem?_getD, ite_yes, si, ht, lf, h5, h6]
          exact ⟨_, _, ⟨a7, s7, false, rfl, (fun h => Bool.noConfusion h), by omega, by omega, rfl⟩, weakS_sets [some 0, some 1, some 2] rfl ht (h.wms _ _ _ _) (by simp -dsimp -implicitDefEqProofs (disch := omega) [go_sem, -List.getD_eq_getElem?_getD, ite_yes]; exact ⟨.inl ⟨rfl, rfl⟩, .inl ⟨rfl, ppE_flat _⟩, wl_cell (by omega) (by simp [sg])⟩) (by simp -dsimp -implicitDefEqProofs (disch := omega) [go_sem, -List.getD_eq_getElem?_getD, ite_yes, ht])⟩
      · refine AAt.of (SubH.nil) ?_
        refine AAny.takes (fuel := 7) (by kernel_rfl) (by kernel_rfl) [5] (by kernel_rfl) (by kernel_rfl) ?_
        simp -dsimp -implicitDefEqProofs (disch := omega) [go_sem, -List.getD_eq_getElem?_getD, ite_yes, si, ht, lf, h5]
        refine AAny.one 6 1 (by kernel_rfl) (by kernel_rfl) (by kernel_rfl) ?_
        simp -dsimp -implicitDefEqProofs (disch := omega) [go_sem, -List.getD_eq_getElem?_getD, ite_yes, si, ht, lf, h5]
        refine AAt.of (SubH.nil) ?_
        refine AAny.takes (fuel := 0) (by kernel_rfl) (by kernel_rfl) [2, 6, 7, 8, 9, 10] (by kernel_rfl) (by kernel_rfl) ?_
        simp -dsimp -implicitDefEqProofs (disch := omega) [go_sem, -List.getD_eq_getElem?_getD, ite_yes, si, ht, lf, h5]
        refine AAny.done (by kernel_rfl) ?_
        simp -dsimp -implicitDefEqProofs (disch := omega) [go_sem, -List.getD_eq_getElem?_getD, ite_yes, si, ht, lf, h5]
        exact ⟨_, _, ⟨a7, s7, false, rfl, (fun h => Bool.noConfusion h), by omega, by omega, rfl⟩, weakS_sets [some 0, some 1, some 2] rfl ht (h.wms _ _ _ _) (by simp -dsimp -implicitDefEqProofs (disch := omega) [go_sem, -List.getD_eq_getElem?_getD, ite_yes]; exact ⟨.inl ⟨rfl, rfl⟩, .inl ⟨rfl, ppE_flat _⟩, wl_cell (by omega) (by simp [sg])⟩) (by simp -dsimp -implicitDefEqProofs (disch := omega) [go_sem, -List.getD_eq_getElem?_getD, ite_yes, ht])⟩
  clear hz
  rintro fr1 H1 ⟨a', s', b, rfl, hbk, ha1, ha2, rfl⟩
  cases b
  · simp -dsimp -implicitDefEqProofs (disch := omega) [go_sem, -List.getD_eq_getElem?_getD, ite_yes, ht]
    refine EndR.of (netV N H.length (l).length (l).length) (H.set t (curB tc n cc a' s') ++ [some ⟨(l).flatMap ppE, true, 78, 4⟩]) ⟨N, l, a', s', rfl, by omega, by omega, by first | omega | (simp; omega), by omega, by omega, rfl⟩ (fin_sets [some 1] rfl ht (h.wms _ _ _ _) ?_ (by simp -dsimp -implicitDefEqProofs (disch := omega) [go_sem, -List.getD_eq_getElem?_getD, ite_yes, ht]))
    simp -dsimp -implicitDefEqProofs (disch := omega) [go_sem, -List.getD_eq_getElem?_getD, ite_yes]
    exact .inl ⟨rfl, ppE_flat _⟩
  have hk := hbk rfl
  simp -dsimp -implicitDefEqProofs (disch := omega) [go_sem, -List.getD_eq_getElem?_getD, ite_yes, ht]
  refine ADraw.any [] (by kernel_rfl) (SubH.nil) ?_
  refine AAny.takes (fuel := 8) (by kernel_rfl) (by kernel_rfl) [0, 2, 3, 4] (by kernel_rfl) (by kernel_rfl) ?_
  simp -dsimp -implicitDefEqProofs (disch := omega) [go_sem, -List.getD_eq_getElem?_getD, ite_yes, si, ht, lf]
  refine AAny.two 7 1 5 (by kernel_rfl) (by kernel_rfl) (by kernel_rfl) ?_ ?_
  · simp -dsimp -implicitDefEqProofs (disch := omega) [go_sem, -List.getD_eq_getElem?_getD, ite_yes, si, ht, lf]
    refine AAt.of (SubH.nil) ?_
    refine AAny.one1 6 5 ?_
    simp -dsimp -implicitDefEqProofs (disch := omega) [go_sem, -List.getD_eq_getElem?_getD, ite_yes, si, ht, lf]
    refine AAt.of (SubH.nil) ?_
    refine AAny.one1 5 6 ?_
    simp -dsimp -implicitDefEqProofs (disch := omega) [go_sem, -List.getD_eq_getElem?_getD, ite_yes, si, ht, lf]
    refine ACall.of (l1Most_A _ _ _) ?_
    simp -dsimp -implicitDefEqProofs (disch := omega) [go_sem, -List.getD_eq_getElem?_getD, ite_yes, si, ht, lf]
    refine AAt.of (SubH.nil) ?_
    refine AAny.one1 4 7 ?_
    simp -dsimp -implicitDefEqProofs (disch := omega) [go_sem, -List.getD_eq_getElem?_getD, ite_yes, si, ht, lf]
    refine AAt.of (SubH.nil) ?_
    refine AAny.one1 3 8 ?_
    simp -dsimp -implicitDefEqProofs (disch := omega) [go_sem, -List.getD_eq_getElem?_getD, ite_yes, si, ht, lf]
    refine AAt.of (SubH.nil) ?_
    refine AAny.one1 2 9 ?_
    simp -dsimp -implicitDefEqProofs (disch := omega) [go_sem, -List.getD_eq_getElem?_getD, ite_yes, si, ht, lf]
    first | refine AAt.of (SubH.nil) ?_ | (refine ⟨?_, AAt.of (SubH.nil) ?_⟩; · omega)
    refine AAny.takes (fuel := 1) (by kernel_rfl) (by kernel_rfl) [10] (by kernel_rfl) (by kernel_rfl) ?_
    simp -dsimp -implicitDefEqProofs (disch := omega) [go_sem, -List.getD_eq_getElem?_getD, ite_yes, si, ht, lf]
    refine AAny.one1 0 11 ?_
    simp -dsimp -implicitDefEqProofs (disch := omega) [go_sem, -List.getD_eq_getElem?_getD, ite_yes, si, ht, lf]
    refine AAt.of (SubH.nil) ?_
    refine AAny.done (by kernel_rfl) ?_
    simp -dsimp -implicitDefEqProofs (disch := omega) [go_sem, -List.getD_eq_getElem?_getD, ite_yes, si, ht, lf]
    refine LoopEnd.of ⟨k + 1, l ++ [(60 + (k : Int), 1, max 2 N, 2)], 0, a', s'⟩ ⟨by simp only; omega, by simp; omega, by simp only; omega, by simp only; omega⟩ (by simp only; omega) (weakS_sets [some 0, some 4, some 2] rfl ht (h.wms _ _ _ _) ?_ (by simp -dsimp -implicitDefEqProofs (disch := omega) [go_sem, -List.getD_eq_getElem?_getD, ite_yes, ht]))
    simp -dsimp -implicitDefEqProofs (disch := omega) [go_sem, -List.getD_eq_getElem?_getD, ite_yes, ht]
    exact ⟨.inl ⟨rfl, rfl⟩, .inl ⟨by simp [ppE], by simp [ppE, flat]⟩, wl_cell (by omega) (by simp [sg])⟩
  · simp -dsimp -implicitDefEqProofs (disch := omega) [go_sem, -List.getD_eq_getElem?_getD, ite_yes, si, ht, lf]
    refine AAt.of (SubH.nil) ?_
    refine AAny.two 6 1 6 (by kernel_rfl) (by kernel_rfl) (by kernel_rfl) ?_ ?_
    · simp -dsimp -implicitDefEqProofs (disch := omega) [go_sem, -List.getD_eq_getElem?_getD, ite_yes, si, ht, lf]
      refine AAt.of (SubH.nil) ?_
      refine AAny.one1 5 6 ?_
      simp -dsimp -implicitDefEqProofs (disch := omega) [go_sem, -List.getD_eq_getElem?_getD, ite_yes, si, ht, lf]
      refine ACall.of (l1Most_A _ _ _) ?_
      simp -dsimp -implicitDefEqProofs (disch := omega) [go_sem, -List.getD_eq_getElem?_getD, ite_yes, si, ht, lf]
      refine AAt.of (SubH.nil) ?_
      refine AAny.one1 4 7 ?_
      simp -dsimp -implicitDefEqProofs (disch := omega) [go_sem, -List.getD_eq_getElem?_getD, ite_yes, si, ht, lf]
      refine AAt.of (SubH.nil) ?_
      refine AAny.one1 3 8 ?_
      simp -dsimp -implicitDefEqProofs (disch := omega) [go_sem, -List.getD_eq_getElem?_getD, ite_yes, si, ht, lf]
      refine AAt.of (SubH.nil) ?_
      refine AAny.one1 2 9 ?_
      simp -dsimp -implicitDefEqProofs (disch := omega) [go_sem, -List.getD_eq_getElem?_getD, ite_yes, si, ht, lf]
      first | refine AAt.of (SubH.nil) ?_ | (refine ⟨?_, AAt.of (SubH.nil) ?_⟩; · omega)
      refine AAny.takes (fuel := 1) (by kernel_rfl) (by kernel_rfl) [10] (by kernel_rfl) (by kernel_rfl) ?_
      simp -dsimp -implicitDefEqProofs (disch := omega) [go_sem, -List.getD_eq_getElem?_getD, ite_yes, si, ht, lf]
      refine AAny.one1 0 11 ?_
      simp -dsimp -implicitDefEqProofs (disch := omega) [go_sem, -List.getD_eq_getElem?_getD, ite_yes, si, ht, lf]
      refine AAt.of (SubH.nil) ?_
      refine AAny.done (by kernel_rfl) ?_
      simp -dsimp -implicitDefEqProofs (disch := omega) [go_sem, -List.getD_eq_getElem?_getD, ite_yes, si, ht, lf]
      refine LoopEnd.of ⟨k + 1, l ++ [(60 + (k : Int), 1, max 2 N, 2)], 0, a', s'⟩ ⟨by simp only; omega, by simp; omega, by simp only; omega, by simp only; omega⟩ (by simp only; omega) (weakS_sets [some 0, some 4, some 2] rfl ht (h.wms _ _ _ _) ?_ (by simp -dsimp -implicitDefEqProofs (disch := omega) [go_sem, -List.getD_eq_getElem?_getD, ite_yes, ht]))
      simp -dsimp -implicitDefEqProofs (disch := omega) [go_sem, -List.getD_eq_getElem?_getD, ite_yes, ht]
      exact ⟨.inl ⟨rfl, rfl⟩, .inl ⟨by simp [ppE], by simp [ppE, flat]⟩, wl_cell (by omega) (by simp [sg])⟩
    · simp -dsimp -implicitDefEqProofs (disch := omega) [go_sem, -List.getD_eq_getElem?_getD, ite_yes, si, ht, lf]
      refine ACall.of (l1Most_A _ _ _) ?_
      simp -dsimp -implicitDefEqProofs (disch := omega) [go_sem, -List.getD_eq_getElem?_getD, ite_yes, si, ht, lf]
      refine AAt.of (SubH.nil) ?_
      refine AAny.two 5 1 7 (by kernel_rfl) (by kernel_rfl) (by kernel_rfl) ?_ ?_
      · simp -dsimp -implicitDefEqProofs (disch := omega) [go_sem, -List.getD_eq_getElem?_getD, ite_yes, si, ht, lf]
        refine AAt.of (SubH.nil) ?_
        refine AAny.one1 4 7 ?_
        simp -dsimp -implicitDefEqProofs (disch := omega) [go_sem, -List.getD_eq_getElem?_getD, ite_yes, si, ht, lf]
        refine AAt.of (SubH.nil) ?_
        refine AAny.one1 3 8 ?_
        simp -dsimp -implicitDefEqProofs (disch := omega) [go_sem, -List.getD_eq_getElem?_getD, ite_yes, si, ht, lf]
        refine AAt.of (SubH.nil) ?_
        refine AAny.one1 2 9 ?_
        simp -dsimp -implicitDefEqProofs (disch := omega) [go_sem, -List.getD_eq_getElem?_getD, ite_yes, si, ht, lf]
        first | refine AAt.of (SubH.nil) ?_ | (refine ⟨?_, AAt.of (SubH.nil) ?_⟩; · omega)
        refine AAny.takes (fuel := 1) (by kernel_rfl) (by kernel_rfl) [10] (by kernel_rfl) (by kernel_rfl) ?_
        simp -dsimp -implicitDefEqProofs (disch := omega) [go_sem, -List.getD_eq_getElem?_getD, ite_yes, si, ht, lf]
        refine AAny.one1 0 11 ?_
        simp -dsimp -implicitDefEqProofs (disch := omega) [go_sem, -List.getD_eq_getElem?_getD, ite_yes, si, ht, lf]
        refine AAt.of (SubH.nil) ?_
        refine AAny.done (by kernel_rfl) ?_
        simp -dsimp -implicitDefEqProofs (disch := omega) [go_sem, -List.getD_eq_getElem?_getD, ite_yes, si, ht, lf]
        refine LoopEnd.of ⟨k + 1, l ++ [(60 + (k : Int), 1, max 2 N, 2)], 0, a', s'⟩ ⟨by simp only; omega, by simp; omega, by simp only; omega, by simp only; omega⟩ (by simp only; omega) (weakS_sets [some 0, some 4, some 2] rfl ht (h.wms _ _ _ _) ?_ (by simp -dsimp -implicitDefEqProofs (disch := omega) [go_sem, -List.getD_eq_getElem?_getD, ite_yes, ht]))
        simp -dsimp -implicitDefEqProofs (disch := omega) [go_sem, -List.getD_eq_getElem?_getD, ite_yes, ht]
        exact ⟨.inl ⟨rfl, rfl⟩, .inl ⟨by simp [ppE], by simp [ppE, flat]⟩, wl_cell (by omega) (by simp [sg])⟩
      · simp -dsimp -implicitDefEqProofs (disch := omega) [go_sem, -List.getD_eq_getElem?_getD, ite_yes, si, ht, lf]
        refine AAt.of (SubH.nil) ?_
        refine AAny.two 4 1 8 (by kernel_rfl) (by kernel_rfl) (by kernel_rfl) ?_ ?_
        · simp -dsimp -implicitDefEqProofs (disch := omega) [go_sem, -List.getD_eq_getElem?_getD, ite_yes, si, ht, lf]
          refine AAt.of (SubH.nil) ?_
          refine AAny.one1 3 8 ?_
          simp -dsimp -implicitDefEqProofs (disch := omega) [go_sem, -List.getD_eq_getElem?_getD, ite_yes, si, ht, lf]
          refine AAt.of (SubH.nil) ?_
          refine AAny.one1 2 9 ?_
          simp -dsimp -implicitDefEqProofs (disch := omega) [go_sem, -List.getD_eq_getElem?_getD, ite_yes, si, ht, lf]
          first | refine AAt.of (SubH.nil) ?_ | (refine ⟨?_, AAt.of (SubH.nil) ?_⟩; · omega)
          refine AAny.takes (fuel := 1) (by kernel_rfl) (by kernel_rfl) [10] (by kernel_rfl) (by kernel_rfl) ?_
          simp -dsimp -implicitDefEqProofs (disch := omega) [go_sem, -List.getD_eq_getElem?_getD, ite_yes, si, ht, lf]
          refine AAny.one1 0 11 ?_
          simp -dsimp -implicitDefEqProofs (disch := omega) [go_sem, -List.getD_eq_getElem?_getD, ite_yes, si, ht, lf]
          refine AAt.of (SubH.nil) ?_
          refine AAny.done (by kernel_rfl) ?_
          simp -dsimp -implicitDefEqProofs (disch := omega) [go_sem, -List.getD_eq_getElem?_getD, ite_yes, si, ht, lf]
          refine LoopEnd.of ⟨k + 1, l ++ [(60 + (k : Int), 1, max 2 N, 2)], 0, a', s'⟩ ⟨by simp only; omega, by simp; omega, by simp only; omega, by simp only; omega⟩ (by simp only; omega) (weakS_sets [some 0, some 4, some 2] rfl ht (h.wms _ _ _ _) ?_ (by simp -dsimp -implicitDefEqProofs (disch := omega) [go_sem, -List.getD_eq_getElem?_getD, ite_yes, ht]))
          simp -dsimp -implicitDefEqProofs (disch := omega) [go_sem, -List.getD_eq_getElem?_getD, ite_yes, ht]
          exact ⟨.inl ⟨rfl, rfl⟩, .inl ⟨by simp [ppE], by simp [ppE, flat]⟩, wl_cell (by omega) (by simp [sg])⟩
        · simp -dsimp -implicitDefEqProofs (disch := omega) [go_sem, -List.getD_eq_getElem?_getD, ite_yes, si, ht, lf]
          refine AAt.of (SubH.nil) ?_
          refine AAny.one1 3 1 ?_
          simp -dsimp -implicitDefEqProofs (disch := omega) [go_sem, -List.getD_eq_getElem?_getD, ite_yes, si, ht, lf]
          refine AAt.of (SubH.nil) ?_
          refine AAny.one1 2 9 ?_
          simp -dsimp -implicitDefEqProofs (disch := omega) [go_sem, -List.getD_eq_getElem?_getD, ite_yes, si, ht, lf]
          first | refine AAt.of (SubH.nil) ?_ | (refine ⟨?_, AAt.of (SubH.nil) ?_⟩; · omega)
          refine AAny.takes (fuel := 1) (by kernel_rfl) (by kernel_rfl) [10] (by kernel_rfl) (by kernel_rfl) ?_
          simp -dsimp -implicitDefEqProofs (disch := omega) [go_sem, -List.getD_eq_getElem?_getD, ite_yes, si, ht, lf]
          refine AAny.one1 0 11 ?_
          simp -dsimp -implicitDefEqProofs (disch := omega) [go_sem, -List.getD_eq_getElem?_getD, ite_yes, si, ht, lf]
          refine AAt.of (SubH.nil) ?_
          refine AAny.done (by kernel_rfl) ?_
          simp -dsimp -implicitDefEqProofs (disch := omega) [go_sem, -List.getD_eq_getElem?_getD, ite_yes, si, ht, lf]
          refine LoopEnd.of ⟨k + 1, l ++ [(60 + (k : Int), 1, max 2 N, 2)], 0, a', s'⟩ ⟨by simp only; omega, by simp; omega, by simp only; omega, by simp only; omega⟩ (by simp only; omega) (weakS_sets [some 0, some 4, some 2] rfl ht (h.wms _ _ _ _) ?_ (by simp -dsimp -implicitDefEqProofs (disch := omega) [go_sem, -List.getD_eq_getElem?_getD, ite_yes, ht]))
          simp -dsimp -implicitDefEqProofs (disch := omega) [go_sem, -List.getD_eq_getElem?_getD, ite_yes, ht]
          exact ⟨.inl ⟨rfl, rfl⟩, .inl ⟨by simp [ppE], by simp [ppE, flat]⟩, wl_cell (by omega) (by simp [sg])⟩
end Go.Proofs.YtncblopbcnkinaaGreat
