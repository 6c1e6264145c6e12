/- Bills that are drawn. -/
import Derived.Test.YthnnbgggfpempaaDoorDrawBy
import Derived.Test.YthnnbgggfpempaaDoorBills
namespace Go.Proofs.YthnnbgggfpempaaDoor
open Go.Am
set_option linter.unusedVariables false
set_option linter.unusedSimpArgs false
set_option maxRecDepth 100000
set_option maxHeartbeats 1000000

def PBill (H : Heap) (t tc n cc : Nat) (at_ : Int) (v : Value) (H' : Heap) : Prop :=
  ∃ (b : Bl) (a s : Int), v = .agg #[.int .i64 b.1, .int .i64 b.2.1, .int .i64 b.2.2.1, .int .i64 b.2.2.2] ∧ at_ ≤ a ∧ a ≤ at_ + 8 ∧ H' = H.set t (curB tc n cc a s)
theorem bill_R {H : Heap} {t tc n cc : Nat} {at_ seed : Int} (h : Cur H t tc n cc at_ seed) (hA : at_ ≤ 100000000000000000) (id day : Int) :
    AFunR Tryd.prog 73 [.pointer (some ⟨t, 0, none⟩), .int .i64 id, .int .i64 day] H (PBill H t tc n cc at_) := by
  refine AFunR.of_body Tryd.func73 (by kernel_rfl) rfl (by kernel_rfl) (by simp [Tryd.ntmps73]) ?_
  have ht := h.lt
  have p0 := h.pos
  have si := fun (x : Option Blk) (L : Heap) (y : Option Blk) => set_into (H := H) (L := L) (x := x) ht (y := y)
  have s0 := fun (L : Heap) (y : Option Blk) => set_into0 (H := H) (L := L) ht (y := y)
  simp -dsimp -implicitDefEqProofs (disch := omega) [go_sem, -List.getD_eq_getElem?_getD, ite_yes]
  refine ACall.via (among_R (h.app _) (by omega) [1, 99, 100, 12345, 1000000000] (by simp) (by simp) _ _ (by omega) (Sl.nth 1 rfl rfl)) ?_
  rintro _ _ ⟨x, rfl, xm, a3, s3, q3, q3', rfl⟩
  have xr : 1 ≤ x ∧ x ≤ 1000000000 := by simp at xm; omega
  simp -dsimp -implicitDefEqProofs (disch := omega) [go_sem, -List.getD_eq_getElem?_getD, ite_yes, s0]
  refine ACall.via (among_R ((h.step (by omega)).app _) (by omega) [0, 0, x, x / 2] (by simp) (by simp) _ _ (by omega) (Sl.nthS 3 rfl rfl)) ?_
  rintro _ _ ⟨y, rfl, ym, a4, s4, q4, q4', rfl⟩
  simp -dsimp -implicitDefEqProofs (disch := omega) [go_sem, -List.getD_eq_getElem?_getD, ite_yes, si]
  refine ACall.via (pick_R ((h.step (by omega)).app _) (by omega) 60 (by omega)) ?_
  rintro _ _ ⟨r, rfl, r0, r1, a5, s5, q5, q5', rfl⟩
  simp -dsimp -implicitDefEqProofs (disch := omega) [go_sem, -List.getD_eq_getElem?_getD, ite_yes, si]
  refine AIf.of (fun w0 => ?_) (fun w0 => ?_)
  · simp -dsimp -implicitDefEqProofs (disch := omega) [go_sem, -List.getD_eq_getElem?_getD, ite_yes, si]
    refine ACall.via (among_R ((h.step (by omega)).app _) (by omega) [0, 999, 1000] (by simp) (by simp) _ _ (by omega) (Sl.nthS 4 rfl rfl)) ?_
    rintro _ _ ⟨z, rfl, zm, a6, s6, q6, q6', rfl⟩
    simp -dsimp -implicitDefEqProofs (disch := omega) [go_sem, -List.getD_eq_getElem?_getD, ite_yes, si]
    exact went_flat h a6 s6 _ rfl ⟨(z, day, x, y), a6, s6, rfl, by omega, by omega, rfl⟩
  simp -dsimp -implicitDefEqProofs (disch := omega) [go_sem, -List.getD_eq_getElem?_getD, ite_yes, si]
  refine AIf.of (fun w1 => ?_) (fun w1 => ?_)
  · simp -dsimp -implicitDefEqProofs (disch := omega) [go_sem, -List.getD_eq_getElem?_getD, ite_yes, si]
    refine ACall.via (among_R ((h.step (by omega)).app _) (by omega) [-1, 3650, 3651] (by simp) (by simp) _ _ (by omega) (Sl.nthS 4 rfl rfl)) ?_
    rintro _ _ ⟨z, rfl, zm, a6, s6, q6, q6', rfl⟩
    simp -dsimp -implicitDefEqProofs (disch := omega) [go_sem, -List.getD_eq_getElem?_getD, ite_yes, si]
    exact went_flat h a6 s6 _ rfl ⟨(id, z, x, y), a6, s6, rfl, by omega, by omega, rfl⟩
  simp -dsimp -implicitDefEqProofs (disch := omega) [go_sem, -List.getD_eq_getElem?_getD, ite_yes, si]
  refine AIf.of (fun w2 => ?_) (fun w2 => ?_)
  · simp -dsimp -implicitDefEqProofs (disch := omega) [go_sem, -List.getD_eq_getElem?_getD, ite_yes, si]
    refine ACall.via (among_R ((h.step (by omega)).app _) (by omega) [0, 1000000001] (by simp) (by simp) _ _ (by omega) (Sl.nthS 4 rfl rfl)) ?_
    rintro _ _ ⟨z, rfl, zm, a6, s6, q6, q6', rfl⟩
    simp -dsimp -implicitDefEqProofs (disch := omega) [go_sem, -List.getD_eq_getElem?_getD, ite_yes, si]
    exact went_flat h a6 s6 _ rfl ⟨(id, day, z, y), a6, s6, rfl, by omega, by omega, rfl⟩
  simp -dsimp -implicitDefEqProofs (disch := omega) [go_sem, -List.getD_eq_getElem?_getD, ite_yes, si]
  refine AIf.of (fun w3 => ?_) (fun w3 => ?_)
  · simp -dsimp -implicitDefEqProofs (disch := omega) [go_sem, -List.getD_eq_getElem?_getD, ite_yes, si]
    refine ACall.via (among_R ((h.step (by omega)).app _) (by omega) [-1, x + 1] (by simp) (by simp) _ _ (by omega) (Sl.nthS 4 rfl rfl)) ?_
    rintro _ _ ⟨z, rfl, zm, a6, s6, q6, q6', rfl⟩
    simp -dsimp -implicitDefEqProofs (disch := omega) [go_sem, -List.getD_eq_getElem?_getD, ite_yes, si]
    exact went_flat h a6 s6 _ rfl ⟨(id, day, x, z), a6, s6, rfl, by omega, by omega, rfl⟩
  simp -dsimp -implicitDefEqProofs (disch := omega) [go_sem, -List.getD_eq_getElem?_getD, ite_yes, si]
  exact went_flat h a5 s5 _ rfl ⟨(id, day, x, y), a5, s5, rfl, by omega, by omega, rfl⟩
def PBls (H : Heap) (t tc n cc : Nat) (at_ : Int) (v : Value) (H' : Heap) : Prop :=
  ∃ (l : List Bl) (a s : Int), v = .slice (some ⟨H.length, 0, none⟩) l.length l.length ∧ l.length ≤ 20 ∧ at_ ≤ a ∧ a ≤ at_ + 300 ∧ H' = H.set t (curB tc n cc a s) ++ [some ⟨l.flatMap blE, true, 42, 4⟩]
structure BlI where
  k : Nat
  l : List Bl
  d : Int
  e : Int
  a : Int
  s : Int
theorem bills_R {H : Heap} {t tc n cc : Nat} {at_ seed : Int} (h : Cur H t tc n cc at_ seed) (hA : at_ ≤ 10000000000000000) :
    AFunR Tryd.prog 83 [.pointer (some ⟨t, 0, none⟩)] H (PBls H t tc n cc at_) := by
  refine AFunR.of_body Tryd.func83 (by kernel_rfl) rfl (by kernel_rfl) (by simp [Tryd.ntmps83]) ?_
  have ht := h.lt
  have p0 := h.pos
  have si := fun (x : Option Blk) (L : Heap) (y : Option Blk) => set_into (H := H) (L := L) (x := x) ht (y := y)
  have s0 := fun (L : Heap) (y : Option Blk) => set_into0 (H := H) (L := L) ht (y := y)
  simp -dsimp -implicitDefEqProofs (disch := omega) [go_sem, -List.getD_eq_getElem?_getD, ite_yes]
  refine ACall.via (among_R (h.app _) (by omega) [1, 5, 990] (by simp) (by simp) _ _ (by omega) (Sl.nth 1 rfl rfl)) ?_
  rintro _ _ ⟨x, rfl, xm, a3, s3, q3, q3', rfl⟩
  have xr : 1 ≤ x ∧ x ≤ 990 := by simp at xm; omega
  simp -dsimp -implicitDefEqProofs (disch := omega) [go_sem, -List.getD_eq_getElem?_getD, ite_yes, s0]
  refine ACall.via (among_R ((h.step (by omega)).app _) (by omega) [0, 100, 300] (by simp) (by simp) _ _ (by omega) (Sl.nthS 2 rfl rfl)) ?_
  rintro _ _ ⟨y, rfl, ym, a4, s4, q4, q4', rfl⟩
  have yr : 0 ≤ y ∧ y ≤ 300 := by simp at ym; omega
  simp -dsimp -implicitDefEqProofs (disch := omega) [go_sem, -List.getD_eq_getElem?_getD, ite_yes, si]
  refine ACall.via (pick_R ((h.step (by omega)).app _) (by omega) 6 (by omega)) ?_
  rintro _ _ ⟨r, rfl, r0, r1, a5, s5, q5, q5', rfl⟩
  obtain ⟨r, rfl⟩ : ∃ k : Nat, r = (k : Int) := ⟨r.toNat, by omega⟩
  simp -dsimp -implicitDefEqProofs (disch := omega) [go_sem, -List.getD_eq_getElem?_getD, ite_yes, si]
  refine ALoop.intro (ι := BlI) (fun i => i.l.length + i.k ≤ 6 ∧ at_ ≤ i.a ∧ i.a + 20 * i.k ≤ at_ + 140 ∧ 0 ≤ i.d ∧ i.d + 10 * i.k ≤ 2000 ∧ 0 ≤ i.e ∧ i.e + 31 * i.k ≤ 2000) (fun i => [(0, .pointer (some ⟨t, 0, none⟩)), (3, .slice (some ⟨H.length, 0, none⟩) i.l.length i.l.length), (4, .int .i64 i.d), (5, .int .i64 i.e), (6, .int .i64 i.k)])
    (fun i => H.set t (curB tc n cc i.a i.s) ++ [some ⟨i.l.flatMap blE, true, 42, 4⟩]) (fun i => i.k) ⟨r, [], x, y, a5, s5⟩ ⟨by simp only [List.length_nil]; omega, by simp only; omega, by simp only; omega, by simp only; omega, by simp only; omega, by simp only; omega, by simp only; omega⟩ ?_ ?_
  · refine weakS_sets [some 0] rfl ht (h.wms _ _ _ _) (by simp -dsimp -implicitDefEqProofs (disch := omega) [go_sem, -List.getD_eq_getElem?_getD, ite_yes]; exact .inl ⟨rfl, rfl⟩) (by simp -dsimp -implicitDefEqProofs (disch := omega) [go_sem, -List.getD_eq_getElem?_getD, ite_yes, ht])
  rintro ⟨k, l, d, e, a, s⟩ ⟨i1, i2, i3, i4, i5, i6, i7⟩
  simp only at i1 i2 i3 i4 i5 i6 i7
  have lf := blE_length l
  cases k with
  | succ m =>
    have e6 : ((m + 1 : Nat) : Int) - 1 = (m : Int) := by omega
    have hm : (0 : Int) < ((m + 1 : Nat) : Int) := by omega
    simp -dsimp -implicitDefEqProofs (disch := omega) [go_sem, -List.getD_eq_getElem?_getD, ite_yes, hm, lf]
    refine ACall.via (bill_R ((h.step (by omega)).app _) (by omega) d e) ?_
    rintro _ _ ⟨b, a6, s6, rfl, q6, q6', rfl⟩
    simp -dsimp -implicitDefEqProofs (disch := omega) [go_sem, -List.getD_eq_getElem?_getD, ite_yes, si, lf]
    refine ⟨by omega, ?_⟩
    refine ACall.via (pick_R ((h.step (by omega)).app _) (by omega) 2 (by omega)) ?_
    rintro _ _ ⟨r2, rfl, r20, r21, a7, s7, q7, q7', rfl⟩
    simp -dsimp -implicitDefEqProofs (disch := omega) [go_sem, -List.getD_eq_getElem?_getD, ite_yes, si]
    refine ACall.via (among_R ((h.step (by omega)).app _) (by omega) [0, 1, 29, 30, 31] (by simp) (by simp) _ _ (by omega) (Sl.nthS 3 rfl rfl)) ?_
    rintro _ _ ⟨z, rfl, zm, a8, s8, q8, q8', rfl⟩
    have zr : 0 ≤ z ∧ z ≤ 31 := by simp at zm; omega
    simp -dsimp -implicitDefEqProofs (disch := omega) [go_sem, -List.getD_eq_getElem?_getD, ite_yes, si, e6]
    refine LoopEnd.of ⟨m, l ++ [b], d + 1 + r2, e + z, a8, s8⟩ ⟨by simp only [List.length_append, List.length_singleton]; omega, by simp only; omega, by simp only; omega, by simp only; omega, by simp only; omega, by simp only; omega, by simp only; omega⟩ (by simp only; omega) (weakS_sets [some 2] rfl ht (h.wms _ _ _ _) ?_ (by simp -dsimp -implicitDefEqProofs (disch := omega) [go_sem, -List.getD_eq_getElem?_getD, ite_yes, ht]))
    simp -dsimp -implicitDefEqProofs (disch := omega) [go_sem, -List.getD_eq_getElem?_getD, ite_yes]
    exact .inl ⟨by simp [blE], by simp [blE, flat]⟩
  | zero =>
    simp -dsimp -implicitDefEqProofs (disch := omega) [go_sem, -List.getD_eq_getElem?_getD, ite_yes, lf]
    refine ACall.via (one_R ((h.step (by omega)).app _) (by omega) 24 (by omega)) ?_
    rintro _ _ ⟨b, rfl, a6, s6, q6, q6', rfl⟩
    cases b
    · simp -dsimp -implicitDefEqProofs (disch := omega) [go_sem, -List.getD_eq_getElem?_getD, ite_yes, si]
      exact EndR.of (.slice (some ⟨H.length, 0, none⟩) l.length l.length) _ ⟨l, a6, s6, rfl, by omega, by omega, by omega, rfl⟩ (fin_sets [some 0] rfl ht (h.wms _ _ _ _) (by simp -dsimp -implicitDefEqProofs (disch := omega) [go_sem, -List.getD_eq_getElem?_getD, ite_yes]; exact .inl ⟨rfl, blE_flat _⟩) (by simp -dsimp -implicitDefEqProofs (disch := omega) [go_sem, -List.getD_eq_getElem?_getD, ite_yes, ht]))
    simp -dsimp -implicitDefEqProofs (disch := omega) [go_sem, -List.getD_eq_getElem?_getD, ite_yes, si]
    refine ALoop.intro (ι := BlI) (fun i => i.l.length ≤ 13 ∧ at_ ≤ i.a ∧ i.a ≤ at_ + 150 + 2 * i.l.length) (fun i => [(0, .pointer (some ⟨t, 0, none⟩)), (3, .slice (some ⟨H.length, 0, none⟩) i.l.length i.l.length)])
      (fun i => H.set t (curB tc n cc i.a i.s) ++ [some ⟨i.l.flatMap blE, true, 42, 4⟩]) (fun i => 14 - i.l.length) ⟨0, l, 0, 0, a6, s6⟩ ⟨by simp only; omega, by simp only; omega, by simp only; omega⟩ ?_ ?_
    · refine weakS_sets [some 0] rfl ht (h.wms _ _ _ _) (by simp -dsimp -implicitDefEqProofs (disch := omega) [go_sem, -List.getD_eq_getElem?_getD, ite_yes]; exact .inl ⟨rfl, blE_flat _⟩) (by simp -dsimp -implicitDefEqProofs (disch := omega) [go_sem, -List.getD_eq_getElem?_getD, ite_yes, ht])
    clear i1 i2 i3 i4 i5 i6 i7 lf
    rintro ⟨_, l, _, _, a, s⟩ ⟨i1, i2, i3⟩
    simp only at i1 i2 i3
    have lf := blE_length l
    simp -dsimp -implicitDefEqProofs (disch := omega) [go_sem, -List.getD_eq_getElem?_getD, ite_yes]
    refine ACall.via (pick_R ((h.step (by omega)).app _) (by omega) 2 (by omega)) ?_
    rintro _ _ ⟨r2, rfl, r20, r21, a7, s7, q7, q7', rfl⟩
    simp -dsimp -implicitDefEqProofs (disch := omega) [go_sem, -List.getD_eq_getElem?_getD, ite_yes, si]
    refine AIf.of (fun w => ?_) (fun w => ?_)
    · simp only [decide_eq_true_eq] at w
      simp -dsimp -implicitDefEqProofs (disch := omega) [go_sem, -List.getD_eq_getElem?_getD, ite_yes, si, lf]
      refine ⟨by omega, LoopEnd.of ⟨0, l ++ [(100 + (l.length : Int), 3650, 1, 0)], 0, 0, a7, s7⟩ ⟨by simp only [List.length_append, List.length_singleton]; omega, by simp only; omega, by simp only [List.length_append, List.length_singleton]; omega⟩ (by simp only [List.length_append, List.length_singleton]; omega) (weakS_sets [some 2] rfl ht (h.wms _ _ _ _) ?_ (by simp -dsimp -implicitDefEqProofs (disch := omega) [go_sem, -List.getD_eq_getElem?_getD, ite_yes, ht]))⟩
      simp -dsimp -implicitDefEqProofs (disch := omega) [go_sem, -List.getD_eq_getElem?_getD, ite_yes]
      exact .inl ⟨by simp [blE], by simp [blE, flat]⟩
    · simp -dsimp -implicitDefEqProofs (disch := omega) [go_sem, -List.getD_eq_getElem?_getD, ite_yes, si]
      exact EndR.of (.slice (some ⟨H.length, 0, none⟩) l.length l.length) _ ⟨l, a7, s7, rfl, by omega, by omega, by omega, rfl⟩ (fin_sets [some 0] rfl ht (h.wms _ _ _ _) (by simp -dsimp -implicitDefEqProofs (disch := omega) [go_sem, -List.getD_eq_getElem?_getD, ite_yes]; exact .inl ⟨rfl, blE_flat _⟩) (by simp -dsimp -implicitDefEqProofs (disch := omega) [go_sem, -List.getD_eq_getElem?_getD, ite_yes, ht]))
end Go.Proofs.YthnnbgggfpempaaDoor
