/- Readings that are drawn. -/
import Derived.Test.YthnnbgggfpempaaDoorDraw
import Derived.Test.YthnnbgggfpempaaDoorL19
namespace Go.Proofs.YthnnbgggfpempaaDoor
open Go.Am
set_option linter.unusedVariables false
set_option linter.unusedSimpArgs false
set_option maxRecDepth 100000
set_option maxHeartbeats 1000000

/-- a list of readings in a new block, behind which the cursor has gone on -/
def PRds (H : Heap) (t tc n cc : Nat) (at_ : Int) (v : Value) (H' : Heap) : Prop :=
  ∃ (l : List Rd) (a s : Int), v = .slice (some ⟨H.length, 0, none⟩) l.length l.length ∧ l.length ≤ 20 ∧ at_ ≤ a ∧ a ≤ at_ + 200 ∧ H' = H.set t (curB tc n cc a s) ++ [some ⟨l.flatMap rdE, true, 25, 2⟩]
structure RdI where
  k : Nat
  l : List Rd
  d : Int
  c : Int
  a : Int
  s : Int
theorem rd_snoc (l : List Rd) (x y : Int) : l.flatMap rdE ++ [Value.int .i64 x, Value.int .i64 y] = (l ++ [(x, y)]).flatMap rdE := by simp [rdE]
theorem meterReadings_R {H : Heap} {t tc n cc : Nat} {at_ seed : Int} (h : Cur H t tc n cc at_ seed) (hA : at_ ≤ 100000000000000000) :
    AFunR Tryd.prog 117 [.pointer (some ⟨t, 0, none⟩)] H (PRds H t tc n cc at_) := by
  refine AFunR.of_body Tryd.func117 (by kernel_rfl) rfl (by kernel_rfl) (by simp [Tryd.ntmps117]) ?_
  have ht := h.lt
  have p0 := h.pos
  have si := fun (x : Option Blk) (L : Heap) (y : Option Blk) => set_into (H := H) (L := L) (x := x) ht (y := y)
  have s0 := fun (L : Heap) (y : Option Blk) => set_into0 (H := H) (L := L) ht (y := y)
  simp -dsimp -implicitDefEqProofs (disch := omega) [go_sem, -List.getD_eq_getElem?_getD, ite_yes]
  refine ACall.via (among_R (h.app _) (by omega) [0, 5, 300] (by simp) (by simp) _ _ (by omega) (Sl.nth 1 rfl rfl)) ?_
  rintro _ _ ⟨x1, rfl, x1m, a1, s1, q1, q1', rfl⟩
  simp -dsimp -implicitDefEqProofs (disch := omega) [go_sem, -List.getD_eq_getElem?_getD, ite_yes, s0]
  refine ACall.via (among_R ((h.step (by omega)).app _) (by omega) [0, 100, 99990] (by simp) (by simp) _ _ (by omega) (Sl.nthS 2 rfl rfl)) ?_
  rintro _ _ ⟨x2, rfl, x2m, a2, s2, q2, q2', rfl⟩
  simp -dsimp -implicitDefEqProofs (disch := omega) [go_sem, -List.getD_eq_getElem?_getD, ite_yes, si]
  refine ACall.via (pick_R ((h.step (by omega)).app _) (by omega) 8 (by omega)) ?_
  rintro _ _ ⟨r, rfl, r0, r1, a3, s3, q3, q3', rfl⟩
  obtain ⟨r, rfl⟩ : ∃ k : Nat, r = (k : Int) := ⟨r.toNat, by omega⟩
  simp -dsimp -implicitDefEqProofs (disch := omega) [go_sem, -List.getD_eq_getElem?_getD, ite_yes, si]
  refine ALoop.intro (ι := RdI) (fun i => i.l.length + i.k ≤ 8 ∧ at_ ≤ i.a ∧ i.a + 4 * i.k ≤ at_ + 40) (fun i => [(0, .pointer (some ⟨t, 0, none⟩)), (3, .slice (some ⟨H.length, 0, none⟩) i.l.length i.l.length), (4, .int .i64 i.d), (5, .int .i64 i.c), (6, .int .i64 i.k)])
    (fun i => H.set t (curB tc n cc i.a i.s) ++ [some ⟨i.l.flatMap rdE, true, 25, 2⟩]) (fun i => i.k) ⟨r, [], x1, x2, a3, s3⟩ ⟨by simp; omega, by simp only; omega, by simp only; omega⟩ ?_ ?_
  · refine weakS_sets [some 0] rfl ht (h.wms _ _ _ _) (by simp -dsimp -implicitDefEqProofs (disch := omega) [go_sem, -List.getD_eq_getElem?_getD, ite_yes]; exact .inl ⟨rfl, rfl⟩) (by simp -dsimp -implicitDefEqProofs (disch := omega) [go_sem, -List.getD_eq_getElem?_getD, ite_yes, ht])
  · rintro ⟨k, l, d, c, a, s⟩ ⟨i1, i2, i3⟩
    simp only at i1 i2 i3
    have lf := rdE_length l
    cases k with
    | succ m =>
      have hm : (0 : Int) < ((m + 1 : Nat) : Int) := by omega
      have e6 : ((m + 1 : Nat) : Int) - 1 = (m : Int) := by omega
      simp -dsimp -implicitDefEqProofs (disch := omega) [go_sem, -List.getD_eq_getElem?_getD, ite_yes, lf]
      refine ⟨by omega, ACall.via (among_R ((h.step (by omega)).app _) (by omega) [1, 7, 30, 31] (by simp) (by simp) _ _ (by omega) (Sl.nthS 3 rfl rfl)) ?_⟩
      rintro _ _ ⟨x3, rfl, x3m, a4, s4, q4, q4', rfl⟩
      simp -dsimp -implicitDefEqProofs (disch := omega) [go_sem, -List.getD_eq_getElem?_getD, ite_yes, si]
      refine ACall.via (among_R ((h.step (by omega)).app _) (by omega) [0, 0, 3, 20, 700, 99999] (by simp) (by simp) _ _ (by omega) (Sl.nthS 4 rfl rfl)) ?_
      rintro _ _ ⟨x4, rfl, x4m, a5, s5, q5, q5', rfl⟩
      simp -dsimp -implicitDefEqProofs (disch := omega) [go_sem, -List.getD_eq_getElem?_getD, ite_yes, si, e6]
      refine LoopEnd.of ⟨m, l ++ [(d, c)], IntKind.i64.wrap (d + x3), (IntKind.i64.wrap (c + x4)).tmod 100000, a5, s5⟩ ⟨by simp; omega, by simp only; omega, by simp only; omega⟩ (by simp only; omega) (weakS_sets [some 2] rfl ht (h.wms _ _ _ _) ?_ (by simp -dsimp -implicitDefEqProofs (disch := omega) [go_sem, -List.getD_eq_getElem?_getD, ite_yes, ht]))
      simp -dsimp -implicitDefEqProofs (disch := omega) [go_sem, -List.getD_eq_getElem?_getD, ite_yes]
      exact .inl ⟨by simp [rdE], by simp [rdE, flat]⟩
    | zero =>
      simp -dsimp -implicitDefEqProofs (disch := omega) [go_sem, -List.getD_eq_getElem?_getD, ite_yes, lf]
      refine AIf.of (fun hl => ?_) (fun hl => ?_)
      · simp -dsimp -implicitDefEqProofs (disch := omega) [go_sem, -List.getD_eq_getElem?_getD, ite_yes]
        exact EndR.of (.slice (some ⟨H.length, 0, none⟩) l.length l.length) _ ⟨l, a, s, rfl, by omega, by omega, by omega, rfl⟩ (fin_sets [some 0] rfl ht (h.wms _ _ _ _) (by simp -dsimp -implicitDefEqProofs (disch := omega) [go_sem, -List.getD_eq_getElem?_getD, ite_yes]; exact .inl ⟨rfl, rdE_flat _⟩) (by simp -dsimp -implicitDefEqProofs (disch := omega) [go_sem, -List.getD_eq_getElem?_getD, ite_yes, ht]))
      have hl0 : 0 < l.length := List.length_pos_iff.2 (by simpa using hl)
      simp -dsimp -implicitDefEqProofs (disch := omega) [go_sem, -List.getD_eq_getElem?_getD, ite_yes]
      refine ACall.via (pick_R ((h.step (by omega)).app _) (by omega) l.length (by omega)) ?_
      rintro _ _ ⟨k0, rfl, k00, k01, a4, s4, q4, q4', rfl⟩
      obtain ⟨k0, rfl⟩ : ∃ k : Nat, k0 = (k : Int) := ⟨k0.toNat, by omega⟩
      have hk : k0 < l.length := by omega
      have hkc := flatMap_cells rdE 2 (fun _ => rfl) (0, 0) l k0 hk
      have hk2 : k0 * 2 + 2 ≤ l.length * 2 := by omega
      generalize l.getD k0 (0, 0) = x at hkc
      simp only [rdE] at hkc
      simp -dsimp -implicitDefEqProofs (disch := omega) [go_sem, -List.getD_eq_getElem?_getD, ite_yes, si, hk, lf, hkc, hk2]
      refine ACall.via (pick_R ((h.step (by omega)).app _) (by omega) 40 (by omega)) ?_
      rintro _ _ ⟨r2, rfl, r20, r21, a5, s5, q5, q5', rfl⟩
      simp -dsimp -implicitDefEqProofs (disch := omega) [go_sem, -List.getD_eq_getElem?_getD, ite_yes, si]
      refine AIf.of (fun w0 => ?_) (fun w0 => ?_)
      · simp -dsimp -implicitDefEqProofs (disch := omega) [go_sem, -List.getD_eq_getElem?_getD, ite_yes, si]
        refine ACall.via (among_R ((h.step (by omega)).app _) (by omega) [-1, 3650, 3651, 0] (by simp) (by simp) _ _ (by omega) (Sl.nthS 2 rfl rfl)) ?_
        rintro _ _ ⟨y, rfl, ym, a6, s6, q6, q6', rfl⟩
        have se := set_flat_eq (f := rdE) (s := 2) (l := l) (fun _ => rfl) (y, x.2) hk
        simp only [rdE] at se
        simp -dsimp -implicitDefEqProofs (disch := omega) [go_sem, -List.getD_eq_getElem?_getD, ite_yes, si, lf, hk, hk2, ht]
        refine EndR.of (.slice (some ⟨H.length, 0, none⟩) l.length l.length) (H.set t (curB tc n cc a6 s6) ++ [some ⟨(l.set k0 (y, x.2)).flatMap rdE, true, 25, 2⟩]) ⟨l.set k0 (y, x.2), a6, s6, by rw [List.length_set], by rw [List.length_set]; omega, by omega, by omega, rfl⟩ (fin_sets [some 0] rfl ht (h.wms _ _ _ _) ?_ (by simp -dsimp -implicitDefEqProofs (disch := omega) [go_sem, -List.getD_eq_getElem?_getD, ite_yes, ht]))
        simp -dsimp -implicitDefEqProofs (disch := omega) [go_sem, -List.getD_eq_getElem?_getD, ite_yes]
        exact .inl ⟨se, (congrArg (fun x => List.all x flat) se.symm).trans (rdE_flat _)⟩
      simp -dsimp -implicitDefEqProofs (disch := omega) [go_sem, -List.getD_eq_getElem?_getD, ite_yes, si]
      refine AIf.of (fun w1 => ?_) (fun w1 => ?_)
      · simp -dsimp -implicitDefEqProofs (disch := omega) [go_sem, -List.getD_eq_getElem?_getD, ite_yes, si]
        refine ACall.via (among_R ((h.step (by omega)).app _) (by omega) [-1, 100000] (by simp) (by simp) _ _ (by omega) (Sl.nthS 2 rfl rfl)) ?_
        rintro _ _ ⟨y, rfl, ym, a6, s6, q6, q6', rfl⟩
        have se := set_flat_eq (f := rdE) (s := 2) (l := l) (fun _ => rfl) (x.1, y) hk
        simp only [rdE] at se
        simp -dsimp -implicitDefEqProofs (disch := omega) [go_sem, -List.getD_eq_getElem?_getD, ite_yes, si, lf, hk, hk2, ht]
        refine EndR.of (.slice (some ⟨H.length, 0, none⟩) l.length l.length) (H.set t (curB tc n cc a6 s6) ++ [some ⟨(l.set k0 (x.1, y)).flatMap rdE, true, 25, 2⟩]) ⟨l.set k0 (x.1, y), a6, s6, by rw [List.length_set], by rw [List.length_set]; omega, by omega, by omega, rfl⟩ (fin_sets [some 0] rfl ht (h.wms _ _ _ _) ?_ (by simp -dsimp -implicitDefEqProofs (disch := omega) [go_sem, -List.getD_eq_getElem?_getD, ite_yes, ht]))
        simp -dsimp -implicitDefEqProofs (disch := omega) [go_sem, -List.getD_eq_getElem?_getD, ite_yes]
        exact .inl ⟨se, (congrArg (fun x => List.all x flat) se.symm).trans (rdE_flat _)⟩
      simp -dsimp -implicitDefEqProofs (disch := omega) [go_sem, -List.getD_eq_getElem?_getD, ite_yes, si]
      refine AIf.of (fun w2 => ?_) (fun w2 => ?_)
      · simp -dsimp -implicitDefEqProofs (disch := omega) [go_sem, -List.getD_eq_getElem?_getD, ite_yes, si]
        refine ALoop.intro (ι := RdI) (fun i => i.l.length ≤ 13 ∧ k0 < i.l.length ∧ at_ ≤ i.a ∧ i.a ≤ at_ + 60 + 2 * i.l.length) (fun i => [(0, .pointer (some ⟨t, 0, none⟩)), (3, .slice (some ⟨H.length, 0, none⟩) i.l.length i.l.length), (7, .int .i64 k0), (8, .pointer (some ⟨H.length + 1, 0, none⟩))])
          (fun i => H.set t (curB tc n cc i.a i.s) ++ [some ⟨i.l.flatMap rdE, true, 25, 2⟩, some ⟨[.int .i64 x.1, .int .i64 x.2], true, 25, 1⟩]) (fun i => 14 - i.l.length) ⟨0, l, 0, 0, a5, s5⟩ ⟨by simp only; omega, by simp only; omega, by simp only; omega, by simp only; omega⟩ ?_ ?_
        · refine weakS_sets [some 0, some 1] rfl ht (h.wms _ _ _ _) (by simp -dsimp -implicitDefEqProofs (disch := omega) [go_sem, -List.getD_eq_getElem?_getD, ite_yes]; exact ⟨.inl ⟨rfl, rdE_flat _⟩, .inl ⟨rfl, rfl⟩⟩) (by simp -dsimp -implicitDefEqProofs (disch := omega) [go_sem, -List.getD_eq_getElem?_getD, ite_yes, ht])
        · rintro ⟨_, l, _, _, a, s⟩ ⟨i1, i2, i3, i4⟩
          simp only at i1 i2 i3 i4
          have lf := rdE_length l
          simp -dsimp -implicitDefEqProofs (disch := omega) [go_sem, -List.getD_eq_getElem?_getD, ite_yes]
          refine ACall.via (pick_R ((h.step (by omega)).app _) (by omega) 2 (by omega)) ?_
          rintro _ _ ⟨r3, rfl, r30, r31, a7, s7, q7, q7', rfl⟩
          simp -dsimp -implicitDefEqProofs (disch := omega) [go_sem, -List.getD_eq_getElem?_getD, ite_yes, si]
          refine AIf.of (fun w3 => ?_) (fun w3 => ?_)
          · simp only [decide_eq_true_eq] at w3
            simp -dsimp -implicitDefEqProofs (disch := omega) [go_sem, -List.getD_eq_getElem?_getD, ite_yes, si, lf]
            refine ⟨by omega, LoopEnd.of ⟨0, l ++ [(1000 + (l.length : Int), 0)], 0, 0, a7, s7⟩ ⟨by simp; omega, by simp; omega, by simp only; omega, by simp; omega⟩ (by simp; omega) (weakS_sets [some 3, some 1] rfl ht (h.wms _ _ _ _) ?_ (by simp -dsimp -implicitDefEqProofs (disch := omega) [go_sem, -List.getD_eq_getElem?_getD, ite_yes, ht]))⟩
            simp -dsimp -implicitDefEqProofs (disch := omega) [go_sem, -List.getD_eq_getElem?_getD, ite_yes]
            exact ⟨.inl ⟨by simp [rdE], by simp [rdE, flat]⟩, .inl ⟨rfl, rfl⟩⟩
          · have hk2 : k0 * 2 + 2 ≤ l.length * 2 := by omega
            have se := set_flat_eq (f := rdE) (s := 2) (l := l) (fun _ => rfl) (x.1, x.2) i2
            simp only [rdE] at se
            simp -dsimp -implicitDefEqProofs (disch := omega) [go_sem, -List.getD_eq_getElem?_getD, ite_yes, si, lf, i2, hk2, ht]
            refine EndR.of (.slice (some ⟨H.length, 0, none⟩) l.length l.length) (H.set t (curB tc n cc a7 s7) ++ [some ⟨(l.set k0 (x.1, x.2)).flatMap rdE, true, 25, 2⟩]) ⟨l.set k0 (x.1, x.2), a7, s7, by rw [List.length_set], by rw [List.length_set]; omega, by omega, by omega, rfl⟩ (fin_sets [some 0] rfl ht (h.wms _ _ _ _) ?_ (by simp -dsimp -implicitDefEqProofs (disch := omega) [go_sem, -List.getD_eq_getElem?_getD, ite_yes, ht]))
            simp -dsimp -implicitDefEqProofs (disch := omega) [go_sem, -List.getD_eq_getElem?_getD, ite_yes]
            exact .inl ⟨se, (congrArg (fun x => List.all x flat) se.symm).trans (rdE_flat _)⟩
      · 
        have se := set_flat_eq (f := rdE) (s := 2) (l := l) (fun _ => rfl) (x.1, x.2) hk
        simp only [rdE] at se
        simp -dsimp -implicitDefEqProofs (disch := omega) [go_sem, -List.getD_eq_getElem?_getD, ite_yes, si, lf, hk, hk2, ht]
        refine EndR.of (.slice (some ⟨H.length, 0, none⟩) l.length l.length) (H.set t (curB tc n cc a5 s5) ++ [some ⟨(l.set k0 (x.1, x.2)).flatMap rdE, true, 25, 2⟩]) ⟨l.set k0 (x.1, x.2), a5, s5, by rw [List.length_set], by rw [List.length_set]; omega, by omega, by omega, rfl⟩ (fin_sets [some 0] rfl ht (h.wms _ _ _ _) ?_ (by simp -dsimp -implicitDefEqProofs (disch := omega) [go_sem, -List.getD_eq_getElem?_getD, ite_yes, ht]))
        simp -dsimp -implicitDefEqProofs (disch := omega) [go_sem, -List.getD_eq_getElem?_getD, ite_yes]
        exact .inl ⟨se, (congrArg (fun x => List.all x flat) se.symm).trans (rdE_flat _)⟩
/-- a number, behind which the cursor has gone on -/
def PInt (H : Heap) (t tc n cc : Nat) (at_ : Int) (v : Value) (H' : Heap) : Prop := ∃ d a s : Int, v = .int .i64 d ∧ at_ ≤ a ∧ a ≤ at_ + 20 ∧ H' = H.set t (curB tc n cc a s)
end Go.Proofs.YthnnbgggfpempaaDoor
