/- Rules, alarms and readings that are drawn. -/
import Derived.Test.YtokafhinmakdnaaDrawBy
import Derived.Test.YtokafhinmakdnaaRules
namespace Go.Proofs.Ytokafhinmakdnaa
open Go.Am
set_option linter.unusedVariables false
set_option linter.unusedSimpArgs false
set_option maxRecDepth 100000
set_option maxHeartbeats 4000000
def PRule (H : Heap) (t tc n cc : Nat) (at_ : Int) (v : Value) (H' : Heap) : Prop :=
  ∃ (b : Ar) (a s : Int), v = .agg #[.int .i64 b.1, .int .i64 b.2.1, .int .i64 b.2.2.1, .int .i64 b.2.2.2] ∧ at_ ≤ a ∧ a ≤ at_ + 12 ∧ H' = H.set t (curB tc n cc a s)
theorem alarmRule_R {H : Heap} {t tc n cc : Nat} {at_ seed : Int} (h : Cur H t tc n cc at_ seed) (hA : at_ ≤ 100000000000000000) :
    AFunR Try.prog 55 [.pointer (some ⟨t, 0, none⟩)] H (PRule H t tc n cc at_) := by
  refine AFunR.of_body Try.func55 (by kernel_rfl) rfl (by kernel_rfl) (by simp [Try.ntmps55]) ?_
  have ht := h.lt
  have p0 := h.pos
  have si := fun (x : Option Blk) (L : Heap) (y : Option Blk) => set_into (H := H) (L := L) (x := x) ht (y := y)
  have s0 := fun (L : Heap) (y : Option Blk) => set_into0 (H := H) (L := L) ht (y := y)
  simp -dsimp -implicitDefEqProofs (disch := omega) [go_sem, -List.getD_eq_getElem?_getD, ite_yes]
  refine ACall.via (among_R (h.app _) (by omega) [0, 10, 20] (by simp) (by simp) _ _ (by omega) (Sl.nth 1 rfl rfl)) ?_
  rintro _ _ ⟨x, rfl, xm, a3, s3, q3, q3', rfl⟩
  have xr : 0 ≤ x ∧ x ≤ 20 := by simp at xm; omega
  simp -dsimp -implicitDefEqProofs (disch := omega) [go_sem, -List.getD_eq_getElem?_getD, ite_yes, s0]
  refine ACall.via (pick_R ((h.step (by omega)).app _) (by omega) 8 (by omega)) ?_
  rintro _ _ ⟨nd, rfl, r0, r1, a4, s4, q4, q4', rfl⟩
  simp -dsimp -implicitDefEqProofs (disch := omega) [go_sem, -List.getD_eq_getElem?_getD, ite_yes, si]
  refine ACall.via (among_R ((h.step (by omega)).app _) (by omega) [0, 10, 30, 31] (by simp) (by simp) _ _ (by omega) (Sl.nthS 2 rfl rfl)) ?_
  rintro _ _ ⟨y, rfl, ym, a5, s5, q5, q5', rfl⟩
  have yr : 0 ≤ y ∧ y ≤ 31 := by simp at ym; omega
  obtain ⟨m, hm⟩ : ∃ m : Nat, (x + y - x) / 2 + 1 = (m : Int) := ⟨((x + y - x) / 2 + 1).toNat, by omega⟩
  have hm2 : y / 2 + 1 = (m : Int) := by rw [← hm]; congr 2; omega
  simp -dsimp -implicitDefEqProofs (disch := omega) [go_sem, -List.getD_eq_getElem?_getD, ite_yes, si, hm, hm2]
  refine ACall.via (pick_R ((h.step (by omega)).app _) (by omega) m (by omega)) ?_
  rintro _ _ ⟨bd, rfl, b0, b1, a6, s6, q6, q6', rfl⟩
  simp -dsimp -implicitDefEqProofs (disch := omega) [go_sem, -List.getD_eq_getElem?_getD, ite_yes, si]
  refine ACall.via (pick_R ((h.step (by omega)).app _) (by omega) 24 (by omega)) ?_
  rintro _ _ ⟨r, rfl, r0, r1, a7, s7, q7, q7', rfl⟩
  simp -dsimp -implicitDefEqProofs (disch := omega) [go_sem, -List.getD_eq_getElem?_getD, ite_yes, si]
  refine AIf.of (fun w0 => ?_) (fun w0 => ?_)
  · simp -dsimp -implicitDefEqProofs (disch := omega) [go_sem, -List.getD_eq_getElem?_getD, ite_yes, si]
    refine ACall.via (among_R ((h.step (by omega)).app _) (by omega) [-1, 16, 15] (by simp) (by simp) _ _ (by omega) (Sl.nthS 4 rfl rfl)) ?_
    rintro _ _ ⟨z, rfl, zm, a8, s8, q8, q8', rfl⟩
    simp -dsimp -implicitDefEqProofs (disch := omega) [go_sem, -List.getD_eq_getElem?_getD, ite_yes, si]
    exact went_flat h a8 s8 _ rfl ⟨(1 + nd, x, x + y, z), a8, s8, rfl, by omega, by omega, rfl⟩
  simp -dsimp -implicitDefEqProofs (disch := omega) [go_sem, -List.getD_eq_getElem?_getD, ite_yes, si]
  refine AIf.of (fun w1 => ?_) (fun w1 => ?_)
  · simp -dsimp -implicitDefEqProofs (disch := omega) [go_sem, -List.getD_eq_getElem?_getD, ite_yes, si]
    refine ACall.via (among_R ((h.step (by omega)).app _) (by omega) [x - 1, 100000, 100001] (by simp) (by simp) _ _ (by omega) (Sl.nthS 4 rfl rfl)) ?_
    rintro _ _ ⟨z, rfl, zm, a8, s8, q8, q8', rfl⟩
    simp -dsimp -implicitDefEqProofs (disch := omega) [go_sem, -List.getD_eq_getElem?_getD, ite_yes, si]
    exact went_flat h a8 s8 _ rfl ⟨(1 + nd, x, z, bd), a8, s8, rfl, by omega, by omega, rfl⟩
  simp -dsimp -implicitDefEqProofs (disch := omega) [go_sem, -List.getD_eq_getElem?_getD, ite_yes, si]
  refine AIf.of (fun w2 => ?_) (fun w2 => ?_)
  · simp -dsimp -implicitDefEqProofs (disch := omega) [go_sem, -List.getD_eq_getElem?_getD, ite_yes, si]
    refine ACall.via (among_R ((h.step (by omega)).app _) (by omega) [0, 9, 8] (by simp) (by simp) _ _ (by omega) (Sl.nthS 4 rfl rfl)) ?_
    rintro _ _ ⟨z, rfl, zm, a8, s8, q8, q8', rfl⟩
    simp -dsimp -implicitDefEqProofs (disch := omega) [go_sem, -List.getD_eq_getElem?_getD, ite_yes, si]
    exact went_flat h a8 s8 _ rfl ⟨(z, x, x + y, bd), a8, s8, rfl, by omega, by omega, rfl⟩
  simp -dsimp -implicitDefEqProofs (disch := omega) [go_sem, -List.getD_eq_getElem?_getD, ite_yes, si]
  exact went_flat h a7 s7 _ rfl ⟨(1 + nd, x, x + y, bd), a7, s7, rfl, by omega, by omega, rfl⟩
def PRead (H : Heap) (t tc n cc : Nat) (at_ : Int) (v : Value) (H' : Heap) : Prop :=
  ∃ (b : Rg) (a s : Int), v = .agg #[.int .i64 b.1, .int .i64 b.2.1, .int .i64 b.2.2] ∧ at_ ≤ a ∧ a ≤ at_ + 8 ∧ H' = H.set t (curB tc n cc a s)
theorem reading_R {H : Heap} {t tc n cc : Nat} {at_ seed : Int} (h : Cur H t tc n cc at_ seed) (hA : at_ ≤ 100000000000000000) (hour : Int) :
    AFunR Try.prog 81 [.pointer (some ⟨t, 0, none⟩), .int .i64 hour] H (PRead H t tc n cc at_) := by
  refine AFunR.of_body Try.func81 (by kernel_rfl) rfl (by kernel_rfl) (by simp [Try.ntmps81]) ?_
  have ht := h.lt
  have p0 := h.pos
  have si := fun (x : Option Blk) (L : Heap) (y : Option Blk) => set_into (H := H) (L := L) (x := x) ht (y := y)
  have s0 := fun (L : Heap) (y : Option Blk) => set_into0 (H := H) (L := L) ht (y := y)
  simp -dsimp -implicitDefEqProofs (disch := omega) [go_sem, -List.getD_eq_getElem?_getD, ite_yes]
  refine ACall.via (pick_R (h.app _) (by omega) 5 (by omega)) ?_
  rintro _ _ ⟨nd, rfl, r0, r1, a4, s4, q4, q4', rfl⟩
  simp -dsimp -implicitDefEqProofs (disch := omega) [go_sem, -List.getD_eq_getElem?_getD, ite_yes, s0]
  refine ACall.via (among_R ((h.step (by omega)).app _) (by omega) [0, 5, 10, 12, 15, 20, 25, 35, 60] (by simp) (by simp) _ _ (by omega) (Sl.nthS 1 rfl rfl)) ?_
  rintro _ _ ⟨y, rfl, ym, a5, s5, q5, q5', rfl⟩
  simp -dsimp -implicitDefEqProofs (disch := omega) [go_sem, -List.getD_eq_getElem?_getD, ite_yes, si]
  refine ACall.via (pick_R ((h.step (by omega)).app _) (by omega) 32 (by omega)) ?_
  rintro _ _ ⟨r, rfl, r0, r1, a7, s7, q7, q7', rfl⟩
  simp -dsimp -implicitDefEqProofs (disch := omega) [go_sem, -List.getD_eq_getElem?_getD, ite_yes, si]
  refine AIf.of (fun w0 => ?_) (fun w0 => ?_)
  · simp -dsimp -implicitDefEqProofs (disch := omega) [go_sem, -List.getD_eq_getElem?_getD, ite_yes, si]
    refine ACall.via (among_R ((h.step (by omega)).app _) (by omega) [-1, 100000, 100001] (by simp) (by simp) _ _ (by omega) (Sl.nthS 3 rfl rfl)) ?_
    rintro _ _ ⟨z, rfl, zm, a8, s8, q8, q8', rfl⟩
    simp -dsimp -implicitDefEqProofs (disch := omega) [go_sem, -List.getD_eq_getElem?_getD, ite_yes, si]
    exact went_flat h a8 s8 _ rfl ⟨(hour, 1 + nd, z), a8, s8, rfl, by omega, by omega, rfl⟩
  simp -dsimp -implicitDefEqProofs (disch := omega) [go_sem, -List.getD_eq_getElem?_getD, ite_yes, si]
  refine AIf.of (fun w1 => ?_) (fun w1 => ?_)
  · simp -dsimp -implicitDefEqProofs (disch := omega) [go_sem, -List.getD_eq_getElem?_getD, ite_yes, si]
    refine ACall.via (among_R ((h.step (by omega)).app _) (by omega) [0, 8, 9] (by simp) (by simp) _ _ (by omega) (Sl.nthS 3 rfl rfl)) ?_
    rintro _ _ ⟨z, rfl, zm, a8, s8, q8, q8', rfl⟩
    simp -dsimp -implicitDefEqProofs (disch := omega) [go_sem, -List.getD_eq_getElem?_getD, ite_yes, si]
    exact went_flat h a8 s8 _ rfl ⟨(hour, z, y), a8, s8, rfl, by omega, by omega, rfl⟩
  simp -dsimp -implicitDefEqProofs (disch := omega) [go_sem, -List.getD_eq_getElem?_getD, ite_yes, si]
  exact went_flat h a7 s7 _ rfl ⟨(hour, 1 + nd, y), a7, s7, rfl, by omega, by omega, rfl⟩
def PRules (H : Heap) (t tc n cc : Nat) (at_ : Int) (v : Value) (H' : Heap) : Prop :=
  ∃ (l : List Ar) (a s : Int), v = .slice (some ⟨H.length, 0, none⟩) l.length l.length ∧ l.length ≤ 20 ∧ at_ ≤ a ∧ a ≤ at_ + 300 ∧ H' = H.set t (curB tc n cc a s) ++ [some ⟨l.flatMap arE, true, 54, 4⟩]
structure ArI where
  k : Nat
  l : List Ar
  d : Int
  a : Int
  s : Int
theorem alarmRules_R {H : Heap} {t tc n cc : Nat} {at_ seed : Int} (h : Cur H t tc n cc at_ seed) (hA : at_ ≤ 10000000000000000) :
    AFunR Try.prog 52 [.pointer (some ⟨t, 0, none⟩)] H (PRules H t tc n cc at_) := by
  refine AFunR.of_body Try.func52 (by kernel_rfl) rfl (by kernel_rfl) (by simp [Try.ntmps52]) ?_
  have ht := h.lt
  have p0 := h.pos
  have si := fun (x : Option Blk) (L : Heap) (y : Option Blk) => set_into (H := H) (L := L) (x := x) ht (y := y)
  have s0 := fun (L : Heap) (y : Option Blk) => set_into0 (H := H) (L := L) ht (y := y)
  simp -dsimp -implicitDefEqProofs (disch := omega) [go_sem, -List.getD_eq_getElem?_getD, ite_yes]
  refine ACall.via (pick_R (h.app _) (by omega) 4 (by omega)) ?_
  rintro _ _ ⟨r, rfl, r0, r1, a5, s5, q5, q5', rfl⟩
  obtain ⟨r, rfl⟩ : ∃ k : Nat, r = (k : Int) := ⟨r.toNat, by omega⟩
  simp -dsimp -implicitDefEqProofs (disch := omega) [go_sem, -List.getD_eq_getElem?_getD, ite_yes, s0]
  refine ALoop.intro (ι := ArI) (fun i => i.l.length + i.k ≤ 4 ∧ at_ ≤ i.a ∧ i.a + 20 * i.k ≤ at_ + 90 ∧ 0 ≤ i.d ∧ i.d + 10 * i.k ≤ 2000) (fun i => [(0, .pointer (some ⟨t, 0, none⟩)), (3, .slice (some ⟨H.length, 0, none⟩) i.l.length i.l.length), (4, .int .i64 i.d), (5, .int .i64 i.k)])
    (fun i => H.set t (curB tc n cc i.a i.s) ++ [some ⟨i.l.flatMap arE, true, 54, 4⟩]) (fun i => i.k) ⟨r, [], 0, a5, s5⟩ ⟨by simp only [List.length_nil]; omega, by simp only; omega, by simp only; omega, by simp only; omega, by simp only; omega⟩ ?_ ?_
  · refine weakS_sets [some 0] rfl ht (h.wms _ _ _ _) (by simp -dsimp -implicitDefEqProofs (disch := omega) [go_sem, -List.getD_eq_getElem?_getD, ite_yes]; exact .inl ⟨rfl, rfl⟩) (by simp -dsimp -implicitDefEqProofs (disch := omega) [go_sem, -List.getD_eq_getElem?_getD, ite_yes, ht])
  rintro ⟨k, l, d, a, s⟩ ⟨i1, i2, i3, i4, i5⟩
  simp only at i1 i2 i3 i4 i5
  have lf := arE_length l
  cases k with
  | succ m =>
    have e6 : ((m + 1 : Nat) : Int) - 1 = (m : Int) := by omega
    have hm : (0 : Int) < ((m + 1 : Nat) : Int) := by omega
    simp -dsimp -implicitDefEqProofs (disch := omega) [go_sem, -List.getD_eq_getElem?_getD, ite_yes, hm, lf]
    refine ACall.via (alarmRule_R ((h.step (by omega)).app _) (by omega)) ?_
    rintro _ _ ⟨b, a6, s6, rfl, q6, q6', rfl⟩
    simp -dsimp -implicitDefEqProofs (disch := omega) [go_sem, -List.getD_eq_getElem?_getD, ite_yes, si, lf]
    refine ACall.via (pick_R ((h.step (by omega)).app _) (by omega) 2 (by omega)) ?_
    rintro _ _ ⟨r2, rfl, r20, r21, a7, s7, q7, q7', rfl⟩
    simp -dsimp -implicitDefEqProofs (disch := omega) [go_sem, -List.getD_eq_getElem?_getD, ite_yes, si, e6, lf]
    refine ⟨by omega, ?_⟩
    refine LoopEnd.of ⟨m, l ++ [(d + 1 + r2, b.2.1, b.2.2.1, b.2.2.2)], d + 1 + r2, a7, s7⟩ ⟨by simp only [List.length_append, List.length_singleton]; omega, by simp only; omega, by simp only; omega, by simp only; omega, by simp only; omega⟩ (by simp only; omega) (weakS_sets [some 3] rfl ht (h.wms _ _ _ _) ?_ (by simp -dsimp -implicitDefEqProofs (disch := omega) [go_sem, -List.getD_eq_getElem?_getD, ite_yes, ht]))
    simp -dsimp -implicitDefEqProofs (disch := omega) [go_sem, -List.getD_eq_getElem?_getD, ite_yes]
    exact .inl ⟨by simp [arE], by simp [arE, flat]⟩
  | zero =>
    simp -dsimp -implicitDefEqProofs (disch := omega) [go_sem, -List.getD_eq_getElem?_getD, ite_yes, lf]
    exact EndR.of (.slice (some ⟨H.length, 0, none⟩) l.length l.length) _ ⟨l, a, s, rfl, by omega, by omega, by omega, rfl⟩ (fin_sets [some 0] rfl ht (h.wms _ _ _ _) (by simp -dsimp -implicitDefEqProofs (disch := omega) [go_sem, -List.getD_eq_getElem?_getD, ite_yes]; exact .inl ⟨rfl, arE_flat _⟩) (by simp -dsimp -implicitDefEqProofs (disch := omega) [go_sem, -List.getD_eq_getElem?_getD, ite_yes, ht]))
def PAls (H : Heap) (t tc n cc : Nat) (at_ : Int) (v : Value) (H' : Heap) : Prop :=
  ∃ (l : List Al) (a s : Int), v = .slice (some ⟨H.length, 0, none⟩) l.length l.length ∧ l.length ≤ 20 ∧ at_ ≤ a ∧ a ≤ at_ + 300 ∧ H' = H.set t (curB tc n cc a s) ++ [some ⟨l.flatMap alE, true, 74, 4⟩]
structure AlI where
  k : Nat
  l : List Al
  d : Int
  a : Int
  s : Int
theorem alarms_R {H : Heap} {t tc n cc : Nat} {at_ seed : Int} (h : Cur H t tc n cc at_ seed) (hA : at_ ≤ 10000000000000000) :
    AFunR Try.prog 53 [.pointer (some ⟨t, 0, none⟩)] H (PAls H t tc n cc at_) := by
  refine AFunR.of_body Try.func53 (by kernel_rfl) rfl (by kernel_rfl) (by simp [Try.ntmps53]) ?_
  have ht := h.lt
  have p0 := h.pos
  have si := fun (x : Option Blk) (L : Heap) (y : Option Blk) => set_into (H := H) (L := L) (x := x) ht (y := y)
  have s0 := fun (L : Heap) (y : Option Blk) => set_into0 (H := H) (L := L) ht (y := y)
  simp -dsimp -implicitDefEqProofs (disch := omega) [go_sem, -List.getD_eq_getElem?_getD, ite_yes]
  refine ACall.via (pick_R (h.app _) (by omega) 4 (by omega)) ?_
  rintro _ _ ⟨r, rfl, r0, r1, a5, s5, q5, q5', rfl⟩
  obtain ⟨r, rfl⟩ : ∃ k : Nat, r = (k : Int) := ⟨r.toNat, by omega⟩
  simp -dsimp -implicitDefEqProofs (disch := omega) [go_sem, -List.getD_eq_getElem?_getD, ite_yes, s0]
  refine ALoop.intro (ι := AlI) (fun i => i.l.length + i.k ≤ 4 ∧ at_ ≤ i.a ∧ i.a + 20 * i.k ≤ at_ + 90 ∧ 0 ≤ i.d ∧ i.d + 10 * i.k ≤ 2000) (fun i => [(0, .pointer (some ⟨t, 0, none⟩)), (3, .slice (some ⟨H.length, 0, none⟩) i.l.length i.l.length), (4, .int .i64 i.d), (5, .int .i64 i.k)])
    (fun i => H.set t (curB tc n cc i.a i.s) ++ [some ⟨i.l.flatMap alE, true, 74, 4⟩]) (fun i => i.k) ⟨r, [], 0, a5, s5⟩ ⟨by simp only [List.length_nil]; omega, by simp only; omega, by simp only; omega, by simp only; omega, by simp only; omega⟩ ?_ ?_
  · refine weakS_sets [some 0] rfl ht (h.wms _ _ _ _) (by simp -dsimp -implicitDefEqProofs (disch := omega) [go_sem, -List.getD_eq_getElem?_getD, ite_yes]; exact .inl ⟨rfl, rfl⟩) (by simp -dsimp -implicitDefEqProofs (disch := omega) [go_sem, -List.getD_eq_getElem?_getD, ite_yes, ht])
  rintro ⟨k, l, d, a, s⟩ ⟨i1, i2, i3, i4, i5⟩
  simp only at i1 i2 i3 i4 i5
  have lf := alE_length l
  cases k with
  | succ m =>
    have e6 : ((m + 1 : Nat) : Int) - 1 = (m : Int) := by omega
    have hm : (0 : Int) < ((m + 1 : Nat) : Int) := by omega
    simp -dsimp -implicitDefEqProofs (disch := omega) [go_sem, -List.getD_eq_getElem?_getD, ite_yes, hm, lf]
    refine ACall.via (pick_R ((h.step (by omega)).app _) (by omega) 2 (by omega)) ?_
    rintro _ _ ⟨r2, rfl, r20, r21, a7, s7, q7, q7', rfl⟩
    simp -dsimp -implicitDefEqProofs (disch := omega) [go_sem, -List.getD_eq_getElem?_getD, ite_yes, si, e6, lf]
    refine ACall.via (pick_R ((h.step (by omega)).app _) (by omega) 2 (by omega)) ?_
    rintro _ _ ⟨r3, rfl, r30, r31, a8, s8, q8, q8', rfl⟩
    simp -dsimp -implicitDefEqProofs (disch := omega) [go_sem, -List.getD_eq_getElem?_getD, ite_yes, si, e6, lf]
    refine ACall.via (pick_R ((h.step (by omega)).app _) (by omega) 10 (by omega)) ?_
    rintro _ _ ⟨r4, rfl, r40, r41, a9, s9, q9, q9', rfl⟩
    simp -dsimp -implicitDefEqProofs (disch := omega) [go_sem, -List.getD_eq_getElem?_getD, ite_yes, si, e6, lf]
    refine ACall.via (one_R ((h.step (by omega)).app _) (by omega) 2 (by omega)) ?_
    rintro _ _ ⟨w, rfl, a10, s10, q10, q10', rfl⟩
    simp -dsimp -implicitDefEqProofs (disch := omega) [go_sem, -List.getD_eq_getElem?_getD, ite_yes, si, e6, lf]
    refine ⟨by omega, ?_⟩
    refine LoopEnd.of ⟨m, l ++ [(d + 1 + r2, 1 + r3, r4, w)], d + 1 + r2, a10, s10⟩ ⟨by simp only [List.length_append, List.length_singleton]; omega, by simp only; omega, by simp only; omega, by simp only; omega, by simp only; omega⟩ (by simp only; omega) (weakS_sets [some 2] rfl ht (h.wms _ _ _ _) ?_ (by simp -dsimp -implicitDefEqProofs (disch := omega) [go_sem, -List.getD_eq_getElem?_getD, ite_yes, ht]))
    simp -dsimp -implicitDefEqProofs (disch := omega) [go_sem, -List.getD_eq_getElem?_getD, ite_yes]
    exact .inl ⟨by simp [alE], by simp [alE, flat]⟩
  | zero =>
    simp -dsimp -implicitDefEqProofs (disch := omega) [go_sem, -List.getD_eq_getElem?_getD, ite_yes, lf]
    refine ACall.via (one_R ((h.step (by omega)).app _) (by omega) 16 (by omega)) ?_
    rintro _ _ ⟨b, rfl, a6, s6, q6, q6', rfl⟩
    cases b
    · simp -dsimp -implicitDefEqProofs (disch := omega) [go_sem, -List.getD_eq_getElem?_getD, ite_yes, si]
      exact EndR.of (.slice (some ⟨H.length, 0, none⟩) l.length l.length) _ ⟨l, a6, s6, rfl, by omega, by omega, by omega, rfl⟩ (fin_sets [some 0] rfl ht (h.wms _ _ _ _) (by simp -dsimp -implicitDefEqProofs (disch := omega) [go_sem, -List.getD_eq_getElem?_getD, ite_yes]; exact .inl ⟨rfl, alE_flat _⟩) (by simp -dsimp -implicitDefEqProofs (disch := omega) [go_sem, -List.getD_eq_getElem?_getD, ite_yes, ht]))
    simp -dsimp -implicitDefEqProofs (disch := omega) [go_sem, -List.getD_eq_getElem?_getD, ite_yes, si]
    refine ACall.via (among_R ((h.step (by omega)).app _) (by omega) [0, 8, 9, 1] (by simp) (by simp) _ _ (by omega) (Sl.nthS 1 rfl rfl)) ?_
    rintro _ _ ⟨z, rfl, zm, a8, s8, q8, q8', rfl⟩
    simp -dsimp -implicitDefEqProofs (disch := omega) [go_sem, -List.getD_eq_getElem?_getD, ite_yes, si]
    refine ACall.via (pick_R ((h.step (by omega)).app _) (by omega) 4 (by omega)) ?_
    rintro _ _ ⟨r4, rfl, r40, r41, a9, s9, q9, q9', rfl⟩
    simp -dsimp -implicitDefEqProofs (disch := omega) [go_sem, -List.getD_eq_getElem?_getD, ite_yes, si]
    refine ACall.via (among_R ((h.step (by omega)).app _) (by omega) [0, 9999, 10000] (by simp) (by simp) _ _ (by omega) (Sl.nthS 2 rfl rfl)) ?_
    rintro _ _ ⟨y, rfl, ym, a10, s10, q10, q10', rfl⟩
    simp -dsimp -implicitDefEqProofs (disch := omega) [go_sem, -List.getD_eq_getElem?_getD, ite_yes, si, lf]
    refine ⟨by omega, ?_⟩
    refine EndR.of (.slice (some ⟨H.length, 0, none⟩) (l ++ [(z, r4, y, false)]).length (l ++ [(z, r4, y, false)]).length) _ ⟨l ++ [(z, r4, y, false)], a10, s10, rfl, by rw [List.length_append, List.length_singleton]; omega, by omega, by omega, rfl⟩ (fin_sets [some 4] rfl ht (h.wms _ _ _ _) ?_ (by simp -dsimp -implicitDefEqProofs (disch := omega) [go_sem, -List.getD_eq_getElem?_getD, ite_yes, ht]))
    simp -dsimp -implicitDefEqProofs (disch := omega) [go_sem, -List.getD_eq_getElem?_getD, ite_yes]
    exact .inl ⟨by simp [alE], by simp [alE, flat]⟩
end Go.Proofs.Ytokafhinmakdnaa
