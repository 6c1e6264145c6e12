/- Readings of alarms that are drawn. -/
import Derived.Test.YtokafhinmakdnaaDrawAl
namespace Go.Proofs.Ytokafhinmakdnaa
open Go.Am
set_option linter.unusedVariables false
set_option linter.unusedSimpArgs false
set_option maxRecDepth 100000
set_option maxHeartbeats 4000000
def PRgs (H : Heap) (t tc n cc : Nat) (at_ : Int) (v : Value) (H' : Heap) : Prop :=
  ∃ (l : List Rg) (a s : Int), v = .slice (some ⟨H.length, 0, none⟩) l.length l.length ∧ l.length ≤ 40 ∧ at_ ≤ a ∧ a ≤ at_ + 400 ∧ H' = H.set t (curB tc n cc a s) ++ [some ⟨l.flatMap rgE, true, 34, 3⟩]
structure RgI where
  k : Nat
  l : List Rg
  d : Int
  a : Int
  s : Int
theorem readings_R {H : Heap} {t tc n cc : Nat} {at_ seed : Int} (h : Cur H t tc n cc at_ seed) (hA : at_ ≤ 10000000000000000) :
    AFunR Try.prog 54 [.pointer (some ⟨t, 0, none⟩)] H (PRgs H t tc n cc at_) := by
  refine AFunR.of_body Try.func54 (by kernel_rfl) rfl (by kernel_rfl) (by simp [Try.ntmps54]) ?_
  have ht := h.lt
  have p0 := h.pos
  have si := fun (x : Option Blk) (L : Heap) (y : Option Blk) => set_into (H := H) (L := L) (x := x) ht (y := y)
  have s0 := fun (L : Heap) (y : Option Blk) => set_into0 (H := H) (L := L) ht (y := y)
  simp -dsimp -implicitDefEqProofs (disch := omega) [go_sem, -List.getD_eq_getElem?_getD, ite_yes]
  refine ACall.via (pick_R (h.app _) (by omega) 8 (by omega)) ?_
  rintro _ _ ⟨r, rfl, r0, r1, a5, s5, q5, q5', rfl⟩
  obtain ⟨r, rfl⟩ : ∃ k : Nat, r = (k : Int) := ⟨r.toNat, by omega⟩
  simp -dsimp -implicitDefEqProofs (disch := omega) [go_sem, -List.getD_eq_getElem?_getD, ite_yes, s0]
  refine ALoop.intro (ι := RgI) (fun i => i.l.length + i.k ≤ 8 ∧ at_ ≤ i.a ∧ i.a + 20 * i.k ≤ at_ + 170 ∧ 0 ≤ i.d ∧ i.d + 10 * i.k ≤ 2000) (fun i => [(0, .pointer (some ⟨t, 0, none⟩)), (3, .slice (some ⟨H.length, 0, none⟩) i.l.length i.l.length), (4, .int .i64 i.d), (5, .int .i64 i.k)])
    (fun i => H.set t (curB tc n cc i.a i.s) ++ [some ⟨i.l.flatMap rgE, true, 34, 3⟩]) (fun i => i.k) ⟨r, [], 0, a5, s5⟩ ⟨by simp only [List.length_nil]; omega, by simp only; omega, by simp only; omega, by simp only; omega, by simp only; omega⟩ ?_ ?_
  · refine weakS_sets [some 0] rfl ht (h.wms _ _ _ _) (by simp -dsimp -implicitDefEqProofs (disch := omega) [go_sem, -List.getD_eq_getElem?_getD, ite_yes]; exact .inl ⟨rfl, rfl⟩) (by simp -dsimp -implicitDefEqProofs (disch := omega) [go_sem, -List.getD_eq_getElem?_getD, ite_yes, ht])
  rintro ⟨k, l, d, a, s⟩ ⟨i1, i2, i3, i4, i5⟩
  simp only at i1 i2 i3 i4 i5
  have lf := rgE_length l
  cases k with
  | succ m =>
    have e6 : ((m + 1 : Nat) : Int) - 1 = (m : Int) := by omega
    have hm : (0 : Int) < ((m + 1 : Nat) : Int) := by omega
    simp -dsimp -implicitDefEqProofs (disch := omega) [go_sem, -List.getD_eq_getElem?_getD, ite_yes, hm, lf]
    refine ACall.via (pick_R ((h.step (by omega)).app _) (by omega) 4 (by omega)) ?_
    rintro _ _ ⟨r2, rfl, r20, r21, a7, s7, q7, q7', rfl⟩
    simp -dsimp -implicitDefEqProofs (disch := omega) [go_sem, -List.getD_eq_getElem?_getD, ite_yes, si, e6, lf]
    refine ACall.via (reading_R ((h.step (by omega)).app _) (by omega) (d + r2)) ?_
    rintro _ _ ⟨b, a8, s8, rfl, q8, q8', rfl⟩
    simp -dsimp -implicitDefEqProofs (disch := omega) [go_sem, -List.getD_eq_getElem?_getD, ite_yes, si, e6, lf]
    refine ⟨by omega, ?_⟩
    refine LoopEnd.of ⟨m, l ++ [b], d + r2, a8, s8⟩ ⟨by simp only [List.length_append, List.length_singleton]; omega, by simp only; omega, by simp only; omega, by simp only; omega, by simp only; omega⟩ (by simp only; omega) (weakS_sets [some 2] rfl ht (h.wms _ _ _ _) ?_ (by simp -dsimp -implicitDefEqProofs (disch := omega) [go_sem, -List.getD_eq_getElem?_getD, ite_yes, ht]))
    simp -dsimp -implicitDefEqProofs (disch := omega) [go_sem, -List.getD_eq_getElem?_getD, ite_yes]
    exact .inl ⟨by simp [rgE], by simp [rgE, flat]⟩
  | zero =>
    simp -dsimp -implicitDefEqProofs (disch := omega) [go_sem, -List.getD_eq_getElem?_getD, ite_yes, lf]
    refine ACall.via (pick_R ((h.step (by omega)).app _) (by omega) 24 (by omega)) ?_
    rintro _ _ ⟨r3, rfl, r30, r31, a6, s6, q6, q6', rfl⟩
    simp -dsimp -implicitDefEqProofs (disch := omega) [go_sem, -List.getD_eq_getElem?_getD, ite_yes, si]
    refine AIf.of (fun w0 => ?_) (fun w0 => ?_)
    · simp -dsimp -implicitDefEqProofs (disch := omega) [go_sem, -List.getD_eq_getElem?_getD, ite_yes, si]
      refine ACall.via (among_R ((h.step (by omega)).app _) (by omega) [0, 9999, 10000] (by simp) (by simp) _ _ (by omega) (Sl.nthS 1 rfl rfl)) ?_
      rintro _ _ ⟨z, rfl, zm, a8, s8, q8, q8', rfl⟩
      simp -dsimp -implicitDefEqProofs (disch := omega) [go_sem, -List.getD_eq_getElem?_getD, ite_yes, si]
      refine ACall.via (reading_R ((h.step (by omega)).app _) (by omega) z) ?_
      rintro _ _ ⟨b, a9, s9, rfl, q9, q9', rfl⟩
      simp -dsimp -implicitDefEqProofs (disch := omega) [go_sem, -List.getD_eq_getElem?_getD, ite_yes, si, lf]
      refine ⟨by omega, ?_⟩
      refine EndR.of (.slice (some ⟨H.length, 0, none⟩) (l ++ [b]).length (l ++ [b]).length) _ ⟨l ++ [b], a9, s9, rfl, by rw [List.length_append, List.length_singleton]; omega, by omega, by omega, rfl⟩ (fin_sets [some 3] rfl ht (h.wms _ _ _ _) ?_ (by simp -dsimp -implicitDefEqProofs (disch := omega) [go_sem, -List.getD_eq_getElem?_getD, ite_yes, ht]))
      simp -dsimp -implicitDefEqProofs (disch := omega) [go_sem, -List.getD_eq_getElem?_getD, ite_yes]
      exact .inl ⟨by simp [rgE], by simp [rgE, flat]⟩
    simp -dsimp -implicitDefEqProofs (disch := omega) [go_sem, -List.getD_eq_getElem?_getD, ite_yes, si]
    refine AIf.of (fun w1 => ?_) (fun w1 => ?_)
    · simp -dsimp -implicitDefEqProofs (disch := omega) [go_sem, -List.getD_eq_getElem?_getD, ite_yes, si]
      refine ALoop.intro (ι := RgI) (fun i => i.k ≤ 22 ∧ i.l.length ≤ 8 + i.k ∧ at_ ≤ i.a ∧ i.a ≤ at_ + 190 + 2 * i.k) (fun i => [(0, .pointer (some ⟨t, 0, none⟩)), (3, .slice (some ⟨H.length, 0, none⟩) i.l.length i.l.length), (6, .int .i64 i.k)])
        (fun i => H.set t (curB tc n cc i.a i.s) ++ [some ⟨i.l.flatMap rgE, true, 34, 3⟩]) (fun i => 22 - i.k) ⟨0, l, 0, a6, s6⟩ ⟨by simp only; omega, by simp only; omega, by simp only; omega, by simp only; omega⟩ ?_ ?_
      · refine weakS_sets [some 0] rfl ht (h.wms _ _ _ _) (by simp -dsimp -implicitDefEqProofs (disch := omega) [go_sem, -List.getD_eq_getElem?_getD, ite_yes]; exact .inl ⟨rfl, rgE_flat _⟩) (by simp -dsimp -implicitDefEqProofs (disch := omega) [go_sem, -List.getD_eq_getElem?_getD, ite_yes, ht])
      clear i1 i2 i3 i4 i5 lf
      rintro ⟨k, l, _, a, s⟩ ⟨i1, i2, i3, i4⟩
      simp only at i1 i2 i3 i4
      have lf := rgE_length l
      simp -dsimp -implicitDefEqProofs (disch := omega) [go_sem, -List.getD_eq_getElem?_getD, ite_yes]
      refine ACall.via (pick_R ((h.step (by omega)).app _) (by omega) 2 (by omega)) ?_
      rintro _ _ ⟨r2, rfl, r20, r21, a7, s7, q7, q7', rfl⟩
      by_cases hc : (l.length : Int) < 20 + r2 ∧ k < 22
      · obtain ⟨c1, c2⟩ := hc
        have c3 : (k : Int) < 22 := by omega
        simp -dsimp -implicitDefEqProofs (disch := omega) [go_sem, -List.getD_eq_getElem?_getD, ite_yes, si, lf, c1, c2, c3]
        refine ⟨by omega, ?_⟩
        refine LoopEnd.of ⟨k + 1, l ++ [(100 + (k : Int), 1, 5 * (k : Int))], 0, a7, s7⟩ ⟨by simp only; omega, by simp only [List.length_append, List.length_singleton]; omega, by simp only; omega, by simp only; omega⟩ (by simp only; omega) (weakS_sets [some 2] rfl ht (h.wms _ _ _ _) ?_ (by simp -dsimp -implicitDefEqProofs (disch := omega) [go_sem, -List.getD_eq_getElem?_getD, ite_yes, ht]))
        simp -dsimp -implicitDefEqProofs (disch := omega) [go_sem, -List.getD_eq_getElem?_getD, ite_yes]
        exact .inl ⟨by simp [rgE], by simp [rgE, flat]⟩
      · by_cases c1 : (l.length : Int) < 20 + r2
        · have c3 : ¬ (k : Int) < 22 := fun c => hc ⟨c1, by omega⟩
          simp -dsimp -implicitDefEqProofs (disch := omega) [go_sem, -List.getD_eq_getElem?_getD, ite_yes, si, lf, c1, c3]
          exact EndR.of (.slice (some ⟨H.length, 0, none⟩) l.length l.length) _ ⟨l, a7, s7, rfl, by omega, by omega, by omega, rfl⟩ (fin_sets [some 0] rfl ht (h.wms _ _ _ _) (by simp -dsimp -implicitDefEqProofs (disch := omega) [go_sem, -List.getD_eq_getElem?_getD, ite_yes]; exact .inl ⟨rfl, rgE_flat _⟩) (by simp -dsimp -implicitDefEqProofs (disch := omega) [go_sem, -List.getD_eq_getElem?_getD, ite_yes, ht]))
        · simp -dsimp -implicitDefEqProofs (disch := omega) [go_sem, -List.getD_eq_getElem?_getD, ite_yes, si, lf, c1]
          exact EndR.of (.slice (some ⟨H.length, 0, none⟩) l.length l.length) _ ⟨l, a7, s7, rfl, by omega, by omega, by omega, rfl⟩ (fin_sets [some 0] rfl ht (h.wms _ _ _ _) (by simp -dsimp -implicitDefEqProofs (disch := omega) [go_sem, -List.getD_eq_getElem?_getD, ite_yes]; exact .inl ⟨rfl, rgE_flat _⟩) (by simp -dsimp -implicitDefEqProofs (disch := omega) [go_sem, -List.getD_eq_getElem?_getD, ite_yes, ht]))
    simp -dsimp -implicitDefEqProofs (disch := omega) [go_sem, -List.getD_eq_getElem?_getD, ite_yes, si]
    exact EndR.of (.slice (some ⟨H.length, 0, none⟩) l.length l.length) _ ⟨l, a6, s6, rfl, by omega, by omega, by omega, rfl⟩ (fin_sets [some 0] rfl ht (h.wms _ _ _ _) (by simp -dsimp -implicitDefEqProofs (disch := omega) [go_sem, -List.getD_eq_getElem?_getD, ite_yes]; exact .inl ⟨rfl, rgE_flat _⟩) (by simp -dsimp -implicitDefEqProofs (disch := omega) [go_sem, -List.getD_eq_getElem?_getD, ite_yes, ht]))
end Go.Proofs.Ytokafhinmakdnaa
