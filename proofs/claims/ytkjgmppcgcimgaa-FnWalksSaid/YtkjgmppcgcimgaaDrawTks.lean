/- Tasks that are drawn. -/
import Derived.Test.YtkjgmppcgcimgaaDraw
import Derived.Test.YtkjgmppcgcimgaaAssign
namespace Go.Proofs.Ytkjgmppcgcimgaa
open Go.Am
set_option linter.unusedVariables false
set_option linter.unusedSimpArgs false
set_option maxRecDepth 100000
set_option maxHeartbeats 1000000

/-- a list of tasks in a new block, behind which the cursor has gone on -/
def PTks (H : Heap) (t tc n cc : Nat) (at_ : Int) (v : Value) (H' : Heap) : Prop :=
  ∃ (l : List Tk) (a s : Int), v = .slice (some ⟨H.length, 0, none⟩) l.length l.length ∧ l.length ≤ 20 ∧ at_ ≤ a ∧ a ≤ at_ + 200 ∧ H' = H.set t (curB tc n cc a s) ++ [some ⟨l.flatMap tkE, true, 48, 3⟩]
structure TkI where
  k : Nat
  l : List Tk
  d : Int
  a : Int
  s : Int
theorem tasksG_R {H : Heap} {t tc n cc : Nat} {at_ seed : Int} (h : Cur H t tc n cc at_ seed) (hA : at_ ≤ 100000000000000000) (nodes : Int) (hn : nodes ≤ 60000) :
    AFunR Try.prog 45 [.pointer (some ⟨t, 0, none⟩), .int .i64 nodes] H (PTks H t tc n cc at_) := by
  refine AFunR.of_body Try.func45 (by kernel_rfl) rfl (by kernel_rfl) (by simp [Try.ntmps45]) ?_
  have ht := h.lt
  have p0 := h.pos
  obtain ⟨N, mx, hN⟩ : ∃ N, max nodes 1 = N ∧ 1 ≤ N ∧ N ≤ 60000 := ⟨_, rfl, by omega, by omega⟩
  have si := fun (x : Option Blk) (L : Heap) (y : Option Blk) => set_into (H := H) (L := L) (x := x) ht (y := y)
  have s0 := fun (L : Heap) (y : Option Blk) => set_into0 (H := H) (L := L) ht (y := y)
  simp -dsimp -implicitDefEqProofs (disch := omega) [go_sem, -List.getD_eq_getElem?_getD, ite_yes]
  refine ACall.via (pick_R (h.app _) (by omega) 6 (by omega)) ?_
  rintro _ _ ⟨r, rfl, r0, r1, a3, s3, q3, q3', rfl⟩
  obtain ⟨r, rfl⟩ : ∃ k : Nat, r = (k : Int) := ⟨r.toNat, by omega⟩
  simp -dsimp -implicitDefEqProofs (disch := omega) [go_sem, -List.getD_eq_getElem?_getD, ite_yes, s0]
  refine ALoop.intro (ι := TkI) (fun i => i.l.length + i.k ≤ 6 ∧ at_ ≤ i.a ∧ i.a + 6 * i.k ≤ at_ + 40 ∧ 0 ≤ i.d ∧ i.d ≤ 3 * (6 - i.k)) (fun i => [(0, .pointer (some ⟨t, 0, none⟩)), (1, .int .i64 nodes), (5, .slice (some ⟨H.length, 0, none⟩) i.l.length i.l.length), (6, .int .i64 i.d), (7, .int .i64 i.k)])
    (fun i => H.set t (curB tc n cc i.a i.s) ++ [some ⟨i.l.flatMap tkE, true, 48, 3⟩]) (fun i => i.k) ⟨r, [], 0, a3, s3⟩ ⟨by simp; omega, by simp only; omega, by simp only; omega, by simp only; omega, by simp only; omega⟩ ?_ ?_
  · refine weakS_sets [some 0] rfl ht (h.wms _ _ _ _) (by simp -dsimp -implicitDefEqProofs (disch := omega) [go_sem, -List.getD_eq_getElem?_getD, ite_yes]; exact .inl ⟨rfl, rfl⟩) (by simp -dsimp -implicitDefEqProofs (disch := omega) [go_sem, -List.getD_eq_getElem?_getD, ite_yes, ht])
  · rintro ⟨k, l, d, a, s⟩ ⟨i1, i2, i3, i4, i5⟩
    simp only at i1 i2 i3 i4 i5
    have lf := tkE_length l
    cases k with
    | succ m =>
      have hm : (0 : Int) < ((m + 1 : Nat) : Int) := by omega
      have e6 : ((m + 1 : Nat) : Int) - 1 = (m : Int) := by omega
      simp -dsimp -implicitDefEqProofs (disch := omega) [go_sem, -List.getD_eq_getElem?_getD, ite_yes, lf]
      refine ACall.via (pick_R ((h.step (by omega)).app _) (by omega) 3 (by omega)) ?_
      rintro _ _ ⟨r2, rfl, r20, r21, a4, s4, q4, q4', rfl⟩
      simp -dsimp -implicitDefEqProofs (disch := omega) [go_sem, -List.getD_eq_getElem?_getD, ite_yes, si]
      refine ACall.of (l1Most_A _ _ _) ?_
      simp -dsimp -implicitDefEqProofs (disch := omega) [go_sem, -List.getD_eq_getElem?_getD, ite_yes, mx]
      refine ACall.via (pick_R ((h.step (by omega)).app _) (by omega) N (by omega)) ?_
      rintro _ _ ⟨r3, rfl, r30, r31, a5, s5, q5, q5', rfl⟩
      simp -dsimp -implicitDefEqProofs (disch := omega) [go_sem, -List.getD_eq_getElem?_getD, ite_yes, si]
      refine ACall.via (among_R ((h.step (by omega)).app _) (by omega) [1, 10, 10, 25, 60, 480] (by simp) (by simp) _ _ (by omega) (Sl.nthS 1 rfl rfl)) ?_
      rintro _ _ ⟨x3, rfl, x3m, a6, s6, q6, q6', rfl⟩
      simp -dsimp -implicitDefEqProofs (disch := omega) [go_sem, -List.getD_eq_getElem?_getD, ite_yes, si, e6, lf]
      refine ⟨by omega, LoopEnd.of ⟨m, l ++ [(d + 1 + r2, 1 + r3, x3)], d + 1 + r2, a6, s6⟩ ⟨by simp; omega, by simp only; omega, by simp only; omega, by simp only; omega, by simp only; omega⟩ (by simp only; omega) (weakS_sets [some 3] rfl ht (h.wms _ _ _ _) ?_ (by simp -dsimp -implicitDefEqProofs (disch := omega) [go_sem, -List.getD_eq_getElem?_getD, ite_yes, ht]))⟩
      simp -dsimp -implicitDefEqProofs (disch := omega) [go_sem, -List.getD_eq_getElem?_getD, ite_yes]
      exact .inl ⟨by simp [tkE], by simp [tkE, flat]⟩
    | zero =>
      simp -dsimp -implicitDefEqProofs (disch := omega) [go_sem, -List.getD_eq_getElem?_getD, ite_yes, lf]
      refine AIf.of (fun hl => ?_) (fun hl => ?_)
      · simp -dsimp -implicitDefEqProofs (disch := omega) [go_sem, -List.getD_eq_getElem?_getD, ite_yes]
        exact EndR.of (.slice (some ⟨H.length, 0, none⟩) l.length l.length) _ ⟨l, a, s, rfl, by omega, by omega, by omega, rfl⟩ (fin_sets [some 0] rfl ht (h.wms _ _ _ _) (by simp -dsimp -implicitDefEqProofs (disch := omega) [go_sem, -List.getD_eq_getElem?_getD, ite_yes]; exact .inl ⟨rfl, tkE_flat _⟩) (by simp -dsimp -implicitDefEqProofs (disch := omega) [go_sem, -List.getD_eq_getElem?_getD, ite_yes, ht]))
      have hl0 : 0 < l.length := List.length_pos_iff.2 (by simpa using hl)
      simp -dsimp -implicitDefEqProofs (disch := omega) [go_sem, -List.getD_eq_getElem?_getD, ite_yes]
      refine ACall.via (pick_R ((h.step (by omega)).app _) (by omega) l.length (by omega)) ?_
      rintro _ _ ⟨k0, rfl, k00, k01, a4, s4, q4, q4', rfl⟩
      obtain ⟨k0, rfl⟩ : ∃ k : Nat, k0 = (k : Int) := ⟨k0.toNat, by omega⟩
      have hk : k0 < l.length := by omega
      have hkc := flatMap_cells tkE 3 (fun _ => rfl) (0, 0, 0) l k0 hk
      have hk2 : k0 * 3 + 3 ≤ l.length * 3 := by omega
      generalize l.getD k0 (0, 0, 0) = x at hkc
      simp only [tkE] at hkc
      simp -dsimp -implicitDefEqProofs (disch := omega) [go_sem, -List.getD_eq_getElem?_getD, ite_yes, si, hk, lf, hkc, hk2]
      refine ACall.via (pick_R ((h.step (by omega)).app _) (by omega) 40 (by omega)) ?_
      rintro _ _ ⟨r2, rfl, r20, r21, a5, s5, q5, q5', rfl⟩
      simp -dsimp -implicitDefEqProofs (disch := omega) [go_sem, -List.getD_eq_getElem?_getD, ite_yes, si]
      refine AIf.of (fun w0 => ?_) (fun w0 => ?_)
      · simp -dsimp -implicitDefEqProofs (disch := omega) [go_sem, -List.getD_eq_getElem?_getD, ite_yes, si]
        refine ACall.via (among_R ((h.step (by omega)).app _) (by omega) [0, 99, 100] (by simp) (by simp) _ _ (by omega) (Sl.nthS 2 rfl rfl)) ?_
        rintro _ _ ⟨y, rfl, ym, a6, s6, q6, q6', rfl⟩
        have se := set_flat_eq (f := tkE) (s := 3) (l := l) (fun _ => rfl) (y, x.2.1, x.2.2) hk
        simp only [tkE] at se
        simp -dsimp -implicitDefEqProofs (disch := omega) [go_sem, -List.getD_eq_getElem?_getD, ite_yes, si, lf, hk, hk2, ht]
        refine EndR.of (.slice (some ⟨H.length, 0, none⟩) l.length l.length) (H.set t (curB tc n cc a6 s6) ++ [some ⟨(l.set k0 (y, x.2.1, x.2.2)).flatMap tkE, true, 48, 3⟩]) ⟨l.set k0 (y, x.2.1, x.2.2), a6, s6, by rw [List.length_set], by rw [List.length_set]; omega, by omega, by omega, rfl⟩ (fin_sets [some 0] rfl ht (h.wms _ _ _ _) ?_ (by simp -dsimp -implicitDefEqProofs (disch := omega) [go_sem, -List.getD_eq_getElem?_getD, ite_yes, ht]))
        simp -dsimp -implicitDefEqProofs (disch := omega) [go_sem, -List.getD_eq_getElem?_getD, ite_yes]
        exact .inl ⟨se, (congrArg (fun x => List.all x flat) se.symm).trans (tkE_flat _)⟩
      simp -dsimp -implicitDefEqProofs (disch := omega) [go_sem, -List.getD_eq_getElem?_getD, ite_yes, si]
      refine AIf.of (fun w1 => ?_) (fun w1 => ?_)
      · simp -dsimp -implicitDefEqProofs (disch := omega) [go_sem, -List.getD_eq_getElem?_getD, ite_yes, si]
        refine ACall.via (among_R ((h.step (by omega)).app _) (by omega) [0, 8, 9] (by simp) (by simp) _ _ (by omega) (Sl.nthS 2 rfl rfl)) ?_
        rintro _ _ ⟨y, rfl, ym, a6, s6, q6, q6', rfl⟩
        have se := set_flat_eq (f := tkE) (s := 3) (l := l) (fun _ => rfl) (x.1, y, x.2.2) hk
        simp only [tkE] at se
        simp -dsimp -implicitDefEqProofs (disch := omega) [go_sem, -List.getD_eq_getElem?_getD, ite_yes, si, lf, hk, hk2, ht]
        refine EndR.of (.slice (some ⟨H.length, 0, none⟩) l.length l.length) (H.set t (curB tc n cc a6 s6) ++ [some ⟨(l.set k0 (x.1, y, x.2.2)).flatMap tkE, true, 48, 3⟩]) ⟨l.set k0 (x.1, y, x.2.2), a6, s6, by rw [List.length_set], by rw [List.length_set]; omega, by omega, by omega, rfl⟩ (fin_sets [some 0] rfl ht (h.wms _ _ _ _) ?_ (by simp -dsimp -implicitDefEqProofs (disch := omega) [go_sem, -List.getD_eq_getElem?_getD, ite_yes, ht]))
        simp -dsimp -implicitDefEqProofs (disch := omega) [go_sem, -List.getD_eq_getElem?_getD, ite_yes]
        exact .inl ⟨se, (congrArg (fun x => List.all x flat) se.symm).trans (tkE_flat _)⟩
      simp -dsimp -implicitDefEqProofs (disch := omega) [go_sem, -List.getD_eq_getElem?_getD, ite_yes, si]
      refine AIf.of (fun w2 => ?_) (fun w2 => ?_)
      · simp -dsimp -implicitDefEqProofs (disch := omega) [go_sem, -List.getD_eq_getElem?_getD, ite_yes, si]
        refine ACall.via (among_R ((h.step (by omega)).app _) (by omega) [0, 481] (by simp) (by simp) _ _ (by omega) (Sl.nthS 2 rfl rfl)) ?_
        rintro _ _ ⟨y, rfl, ym, a6, s6, q6, q6', rfl⟩
        have se := set_flat_eq (f := tkE) (s := 3) (l := l) (fun _ => rfl) (x.1, x.2.1, y) hk
        simp only [tkE] at se
        simp -dsimp -implicitDefEqProofs (disch := omega) [go_sem, -List.getD_eq_getElem?_getD, ite_yes, si, lf, hk, hk2, ht]
        refine EndR.of (.slice (some ⟨H.length, 0, none⟩) l.length l.length) (H.set t (curB tc n cc a6 s6) ++ [some ⟨(l.set k0 (x.1, x.2.1, y)).flatMap tkE, true, 48, 3⟩]) ⟨l.set k0 (x.1, x.2.1, y), a6, s6, by rw [List.length_set], by rw [List.length_set]; omega, by omega, by omega, rfl⟩ (fin_sets [some 0] rfl ht (h.wms _ _ _ _) ?_ (by simp -dsimp -implicitDefEqProofs (disch := omega) [go_sem, -List.getD_eq_getElem?_getD, ite_yes, ht]))
        simp -dsimp -implicitDefEqProofs (disch := omega) [go_sem, -List.getD_eq_getElem?_getD, ite_yes]
        exact .inl ⟨se, (congrArg (fun x => List.all x flat) se.symm).trans (tkE_flat _)⟩
      simp -dsimp -implicitDefEqProofs (disch := omega) [go_sem, -List.getD_eq_getElem?_getD, ite_yes, si]
      refine AIf.of (fun w3 => ?_) (fun w3 => ?_)
      · simp -dsimp -implicitDefEqProofs (disch := omega) [go_sem, -List.getD_eq_getElem?_getD, ite_yes, si]
        refine ALoop.intro (ι := TkI) (fun i => i.l.length ≤ 8 ∧ k0 < i.l.length ∧ at_ ≤ i.a ∧ i.a ≤ at_ + 60 + 2 * i.l.length ∧ 0 ≤ i.d ∧ i.d ≤ 30 + i.l.length) (fun i => [(0, .pointer (some ⟨t, 0, none⟩)), (5, .slice (some ⟨H.length, 0, none⟩) i.l.length i.l.length), (6, .int .i64 i.d), (8, .int .i64 k0), (9, .pointer (some ⟨H.length + 1, 0, none⟩))])
          (fun i => H.set t (curB tc n cc i.a i.s) ++ [some ⟨i.l.flatMap tkE, true, 48, 3⟩, some ⟨[.int .i64 x.1, .int .i64 x.2.1, .int .i64 x.2.2], true, 48, 1⟩]) (fun i => 14 - i.l.length) ⟨0, l, d, a5, s5⟩ ⟨by simp only; omega, by simp only; omega, by simp only; omega, by simp only; omega, by simp only; omega, by simp only; omega⟩ ?_ ?_
        · refine weakS_sets [some 0, some 1] rfl ht (h.wms _ _ _ _) (by simp -dsimp -implicitDefEqProofs (disch := omega) [go_sem, -List.getD_eq_getElem?_getD, ite_yes]; exact ⟨.inl ⟨rfl, tkE_flat _⟩, .inl ⟨rfl, rfl⟩⟩) (by simp -dsimp -implicitDefEqProofs (disch := omega) [go_sem, -List.getD_eq_getElem?_getD, ite_yes, ht])
        · rintro ⟨_, l, d, a, s⟩ ⟨i1, i2, i3, i4, i5, i6⟩
          simp only at i1 i2 i3 i4 i5 i6
          have lf := tkE_length l
          simp -dsimp -implicitDefEqProofs (disch := omega) [go_sem, -List.getD_eq_getElem?_getD, ite_yes]
          refine ACall.via (pick_R ((h.step (by omega)).app _) (by omega) 2 (by omega)) ?_
          rintro _ _ ⟨r3, rfl, r30, r31, a7, s7, q7, q7', rfl⟩
          simp -dsimp -implicitDefEqProofs (disch := omega) [go_sem, -List.getD_eq_getElem?_getD, ite_yes, si]
          refine AIf.of (fun w3 => ?_) (fun w3 => ?_)
          · simp only [decide_eq_true_eq] at w3
            simp -dsimp -implicitDefEqProofs (disch := omega) [go_sem, -List.getD_eq_getElem?_getD, ite_yes, si, lf]
            refine ⟨by omega, LoopEnd.of ⟨0, l ++ [(d + 1, 1, 5)], d + 1, a7, s7⟩ ⟨by simp; omega, by simp; omega, by simp only; omega, by simp; omega, by simp only; omega, by simp; omega⟩ (by simp; omega) (weakS_sets [some 3, some 1] rfl ht (h.wms _ _ _ _) ?_ (by simp -dsimp -implicitDefEqProofs (disch := omega) [go_sem, -List.getD_eq_getElem?_getD, ite_yes, ht]))⟩
            simp -dsimp -implicitDefEqProofs (disch := omega) [go_sem, -List.getD_eq_getElem?_getD, ite_yes]
            exact ⟨.inl ⟨by simp [tkE], by simp [tkE, flat]⟩, .inl ⟨rfl, rfl⟩⟩
          · have hk2 : k0 * 3 + 3 ≤ l.length * 3 := by omega
            have se := set_flat_eq (f := tkE) (s := 3) (l := l) (fun _ => rfl) (x.1, x.2.1, x.2.2) i2
            simp only [tkE] at se
            simp -dsimp -implicitDefEqProofs (disch := omega) [go_sem, -List.getD_eq_getElem?_getD, ite_yes, si, lf, i2, hk2, ht]
            refine EndR.of (.slice (some ⟨H.length, 0, none⟩) l.length l.length) (H.set t (curB tc n cc a7 s7) ++ [some ⟨(l.set k0 (x.1, x.2.1, x.2.2)).flatMap tkE, true, 48, 3⟩]) ⟨l.set k0 (x.1, x.2.1, x.2.2), a7, s7, by rw [List.length_set], by rw [List.length_set]; omega, by omega, by omega, rfl⟩ (fin_sets [some 0] rfl ht (h.wms _ _ _ _) ?_ (by simp -dsimp -implicitDefEqProofs (disch := omega) [go_sem, -List.getD_eq_getElem?_getD, ite_yes, ht]))
            simp -dsimp -implicitDefEqProofs (disch := omega) [go_sem, -List.getD_eq_getElem?_getD, ite_yes]
            exact .inl ⟨se, (congrArg (fun x => List.all x flat) se.symm).trans (tkE_flat _)⟩
      · 
        have se := set_flat_eq (f := tkE) (s := 3) (l := l) (fun _ => rfl) (x.1, x.2.1, x.2.2) hk
        simp only [tkE] at se
        simp -dsimp -implicitDefEqProofs (disch := omega) [go_sem, -List.getD_eq_getElem?_getD, ite_yes, si, lf, hk, hk2, ht]
        refine EndR.of (.slice (some ⟨H.length, 0, none⟩) l.length l.length) (H.set t (curB tc n cc a5 s5) ++ [some ⟨(l.set k0 (x.1, x.2.1, x.2.2)).flatMap tkE, true, 48, 3⟩]) ⟨l.set k0 (x.1, x.2.1, x.2.2), a5, s5, by rw [List.length_set], by rw [List.length_set]; omega, by omega, by omega, rfl⟩ (fin_sets [some 0] rfl ht (h.wms _ _ _ _) ?_ (by simp -dsimp -implicitDefEqProofs (disch := omega) [go_sem, -List.getD_eq_getElem?_getD, ite_yes, ht]))
        simp -dsimp -implicitDefEqProofs (disch := omega) [go_sem, -List.getD_eq_getElem?_getD, ite_yes]
        exact .inl ⟨se, (congrArg (fun x => List.all x flat) se.symm).trans (tkE_flat _)⟩
theorem tasks_R {H : Heap} {t tc n cc : Nat} {at_ seed : Int} (h : Cur H t tc n cc at_ seed) (hA : at_ ≤ 100000000000000000) (nodes : Int) (hn : 1 ≤ nodes ∧ nodes ≤ 60000) :
    AFunR Try.prog 45 [.pointer (some ⟨t, 0, none⟩), .int .i64 nodes] H (PTks H t tc n cc at_) := tasksG_R h hA nodes hn.2
/-- a number of some, behind which the cursor has gone on -/
def PCrews (H : Heap) (t tc n cc : Nat) (at_ : Int) (v : Value) (H' : Heap) : Prop := ∃ d a s : Int, v = .int .i64 d ∧ 0 ≤ d ∧ d ≤ 4 ∧ at_ ≤ a ∧ a ≤ at_ + 20 ∧ H' = H.set t (curB tc n cc a s)
end Go.Proofs.Ytkjgmppcgcimgaa
