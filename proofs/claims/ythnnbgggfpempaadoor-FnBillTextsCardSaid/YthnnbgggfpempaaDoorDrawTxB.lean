/- Bills' texts that are drawn. -/
import Derived.Test.YthnnbgggfpempaaDoorDrawTx
import Derived.Test.YthnnbgggfpempaaDoorDrawBills
import Derived.Test.YthnnbgggfpempaaDoorPaBl
namespace Go.Proofs.YthnnbgggfpempaaDoor
open Go.Am Go.Lib
set_option linter.unusedVariables false
set_option linter.unusedSimpArgs false
set_option maxRecDepth 100000
set_option maxHeartbeats 4000000
/-- a bill -/
def PBl (H : Heap) (v : Value) (H' : Heap) : Prop := ∃ b : Bl, v = .agg #[.int .i64 b.1, .int .i64 b.2.1, .int .i64 b.2.2.1, .int .i64 b.2.2.2] ∧ H' = H
def PStr (H : Heap) (m : Nat) (v : Value) (H' : Heap) : Prop := ∃ l : List UInt8, v = .string (bs l) ∧ l.length ≤ m ∧ H' = H
/-- bills -/
def PBlsO (H : Heap) (v : Value) (H' : Heap) : Prop := ∃ l : List Bl, v = .slice (some ⟨H.length, 0, none⟩) l.length l.length ∧ l.length ≤ 20 ∧ H' = H ++ [some ⟨l.flatMap blE, true, 42, 4⟩]
/-- bills and a number -/
def PBlN (H : Heap) (v : Value) (H' : Heap) : Prop := ∃ (l : List Bl) (x : Int), v = .tuple #[.slice (some ⟨H.length, 0, none⟩) l.length l.length, .int .i64 x] ∧ l.length ≤ 20 ∧ H' = H ++ [some ⟨l.flatMap blE, true, 42, 4⟩]
theorem pbln_end {H L : Heap} {l : List Bl} {x : Int} (i : Nat) (hb : Heap.get L i = some ⟨l.flatMap blE, true, 42, 4⟩) (l1 : l.length ≤ 20) :
    EndR H (PBlN H) (.tuple #[.slice (some ⟨H.length + i, 0, none⟩) l.length l.length, .int .i64 x]) (H ++ L) := by
  refine EndR.of (.tuple #[.slice (some ⟨H.length, 0, none⟩) l.length l.length, .int .i64 x]) _ ⟨l, x, rfl, l1, rfl⟩ (fin_list [some i] rfl ?_ ?_)
  · simp only [wkL, hb]
    exact ⟨⟨trivial, trivial, id, .inl ⟨rfl, blE_flat _⟩⟩, trivial⟩
  · simp -dsimp -implicitDefEqProofs (disch := omega) [go_sem, -List.getD_eq_getElem?_getD, ite_yes, sg]
theorem drawIsValidBills_R {H : Heap} {tc n : Nat} (h : Bytes H tc n) (cc : Nat) : AFunR Tryd.prog 92 [.slice (some ⟨tc, 0, none⟩) n cc] H (PBlsO H) := by
  refine AFunR.of_body Tryd.func92 (by kernel_rfl) rfl (by kernel_rfl) (by simp [Tryd.ntmps92]) ?_
  have ht := h.lt
  simp -dsimp -implicitDefEqProofs (disch := omega) [go_sem, -List.getD_eq_getElem?_getD, ite_yes]
  refine ACall.via (bills_R (h.cur cc) (by omega)) ?_
  rintro _ _ ⟨l, a5, s5, rfl, l1, q5, q5', rfl⟩
  simp -dsimp -implicitDefEqProofs (disch := omega) [go_sem, -List.getD_eq_getElem?_getD, ite_yes]
  refine EndR.of (.slice (some ⟨H.length, 0, none⟩) l.length l.length) _ ⟨l, rfl, l1, rfl⟩ (fin_list [some 1] rfl ?_ (by simp -dsimp -implicitDefEqProofs (disch := omega) [go_sem, -List.getD_eq_getElem?_getD, ite_yes]))
  simp -dsimp -implicitDefEqProofs (disch := omega) [go_sem, -List.getD_eq_getElem?_getD, ite_yes]
  exact .inl ⟨rfl, blE_flat _⟩
theorem drawOpenCents_R {H : Heap} {tc n : Nat} (h : Bytes H tc n) (cc : Nat) : AFunR Tryd.prog 32 [.slice (some ⟨tc, 0, none⟩) n cc] H (PBlsO H) := by
  refine AFunR.of_body Tryd.func32 (by kernel_rfl) rfl (by kernel_rfl) (by simp [Tryd.ntmps32]) ?_
  have ht := h.lt
  simp -dsimp -implicitDefEqProofs (disch := omega) [go_sem, -List.getD_eq_getElem?_getD, ite_yes]
  refine ACall.via (drawIsValidBills_R h cc) ?_
  rintro _ _ ⟨l, rfl, l1, rfl⟩
  simp -dsimp -implicitDefEqProofs (disch := omega) [go_sem, -List.getD_eq_getElem?_getD, ite_yes]
  refine EndR.of (.slice (some ⟨H.length, 0, none⟩) l.length l.length) _ ⟨l, rfl, l1, rfl⟩ (fin_list [some 0] rfl ?_ (by simp -dsimp -implicitDefEqProofs (disch := omega) [go_sem, -List.getD_eq_getElem?_getD, ite_yes]))
  simp -dsimp -implicitDefEqProofs (disch := omega) [go_sem, -List.getD_eq_getElem?_getD, ite_yes]
  exact .inl ⟨rfl, blE_flat _⟩
theorem drawBillText_R {H : Heap} {tc n : Nat} (h : Bytes H tc n) (cc : Nat) : AFunR Tryd.prog 21 [.slice (some ⟨tc, 0, none⟩) n cc] H (PBl H) := by
  refine AFunR.of_body Tryd.func21 (by kernel_rfl) rfl (by kernel_rfl) (by simp [Tryd.ntmps21]) ?_
  have ht := h.lt
  have hc := h.cur cc
  simp -dsimp -implicitDefEqProofs (disch := omega) [go_sem, -List.getD_eq_getElem?_getD, ite_yes]
  refine ACall.via (among_R (h.curJ 1 rfl (by omega)) (by omega) [1, 12, 999, 0] (by simp) (by simp) _ _ (by omega) (Sl.nth 2 rfl rfl)) ?_
  rintro _ _ ⟨x, rfl, xm, a1, s1, q1, q1', rfl⟩
  simp -dsimp -implicitDefEqProofs (disch := omega) [go_sem, -List.getD_eq_getElem?_getD, ite_yes]
  refine ACall.via (among_R (h.curJ 1 rfl (by omega)) (by omega) [0, 300, 3650] (by simp) (by simp) _ _ (by omega) (Sl.nth 3 rfl rfl)) ?_
  rintro _ _ ⟨y, rfl, ym, a2, s2, q2, q2', rfl⟩
  simp -dsimp -implicitDefEqProofs (disch := omega) [go_sem, -List.getD_eq_getElem?_getD, ite_yes]
  refine ACall.via (bill_R (h.curJ 1 rfl (by omega)) (by omega) x y) ?_
  rintro _ _ ⟨b, a3, s3, rfl, q3, q3', rfl⟩
  simp -dsimp -implicitDefEqProofs (disch := omega) [go_sem, -List.getD_eq_getElem?_getD, ite_yes]
  exact EndR.of (.agg #[.int .i64 b.1, .int .i64 b.2.1, .int .i64 b.2.2.1, .int .i64 b.2.2.2]) H ⟨b, rfl, rfl⟩ (fin_flat rfl rfl)
theorem drawParseBill_R {H : Heap} {tc n : Nat} (h : Bytes H tc n) (cc : Nat) : AFunR Tryd.prog 25 [.slice (some ⟨tc, 0, none⟩) n cc] H (PStr H 1000) := by
  refine AFunR.of_body Tryd.func25 (by kernel_rfl) rfl (by kernel_rfl) (by simp [Tryd.ntmps25]) ?_
  have ht := h.lt
  have hc := h.cur cc
  simp -dsimp -implicitDefEqProofs (disch := omega) [go_sem, -List.getD_eq_getElem?_getD, ite_yes]
  refine ACall.via (among_R (h.curJ 0 rfl (by omega)) (by omega) [1, 12, 999] (by simp) (by simp) _ _ (by omega) (Sl.nth 1 rfl rfl)) ?_
  rintro _ _ ⟨x, rfl, xm, a1, s1, q1, q1', rfl⟩
  simp -dsimp -implicitDefEqProofs (disch := omega) [go_sem, -List.getD_eq_getElem?_getD, ite_yes]
  refine ACall.via (among_R (h.curJ 0 rfl (by omega)) (by omega) [0, 300] (by simp) (by simp) _ _ (by omega) (Sl.nth 2 rfl rfl)) ?_
  rintro _ _ ⟨y, rfl, ym, a2, s2, q2, q2', rfl⟩
  simp -dsimp -implicitDefEqProofs (disch := omega) [go_sem, -List.getD_eq_getElem?_getD, ite_yes]
  refine ACall.via (bill_R (h.curJ 0 rfl (by omega)) (by omega) x y) ?_
  rintro _ _ ⟨b, a3, s3, rfl, q3, q3', rfl⟩
  simp -dsimp -implicitDefEqProofs (disch := omega) [go_sem, -List.getD_eq_getElem?_getD, ite_yes]
  refine ACall.of (sBillText_A b _) ?_
  have hl : (if isBl b = true then blText b else []).length ≤ 80 := by
    split
    · rename_i hb
      exact blText_len hb
    · exact Nat.zero_le _
  generalize (if isBl b = true then blText b else []) = l at hl
  simp -dsimp -implicitDefEqProofs (disch := omega) [go_sem, -List.getD_eq_getElem?_getD, ite_yes]
  refine ACall.via (one_R (h.curJ 0 rfl (by omega)) (by omega) 4 (by omega)) ?_
  rintro _ _ ⟨w, rfl, a4, s4, q4, q4', rfl⟩
  cases w
  · simp -dsimp -implicitDefEqProofs (disch := omega) [go_sem, -List.getD_eq_getElem?_getD, ite_yes]
    exact EndR.of (.string (bs l)) H ⟨_, rfl, by omega, rfl⟩ (fin_flat rfl rfl)
  · simp -dsimp -implicitDefEqProofs (disch := omega) [go_sem, -List.getD_eq_getElem?_getD, ite_yes]
    refine ACall.via (spoilt_R (h.curJ 0 rfl (by omega)) (by omega) l [48, 46, 44, 32, 112, 97, 105, 100, 58] (by omega) (by simp) (by simp)) ?_
    rintro _ _ ⟨l, rfl, l1, a5, s5, q5, q5', rfl⟩
    simp -dsimp -implicitDefEqProofs (disch := omega) [go_sem, -List.getD_eq_getElem?_getD, ite_yes]
    exact EndR.of (.string (bs l)) H ⟨l, rfl, by omega, rfl⟩ (fin_flat rfl rfl)
theorem drawReminder_R {H : Heap} {tc n : Nat} (h : Bytes H tc n) (cc : Nat) : AFunR Tryd.prog 27 [.slice (some ⟨tc, 0, none⟩) n cc] H (PBlN H) := by
  refine AFunR.of_body Tryd.func27 (by kernel_rfl) rfl (by kernel_rfl) (by simp [Tryd.ntmps27]) ?_
  have ht := h.lt
  simp -dsimp -implicitDefEqProofs (disch := omega) [go_sem, -List.getD_eq_getElem?_getD, ite_yes]
  refine ACall.via (bills_R (h.cur cc) (by omega)) ?_
  rintro _ _ ⟨l, a5, s5, rfl, l1, q5, q5', rfl⟩
  have lf := blE_length l
  simp -dsimp -implicitDefEqProofs (disch := omega) [go_sem, -List.getD_eq_getElem?_getD, ite_yes]
  by_cases h0 : 0 < l.length
  · have h0' : (0 : Int) < (l.length : Int) := by omega
    simp -dsimp -implicitDefEqProofs (disch := omega) [go_sem, -List.getD_eq_getElem?_getD, ite_yes, h0, h0']
    refine ACall.via (one_R (h.curAt cc (by omega) _) (by omega) 4 (by omega)) ?_
    rintro _ _ ⟨b, rfl, a4, s4, q4, q4', rfl⟩
    cases b
    · simp -dsimp -implicitDefEqProofs (disch := omega) [go_sem, -List.getD_eq_getElem?_getD, ite_yes]
      refine ADraw.any (H ++ [none, some ⟨l.flatMap blE, true, 42, 4⟩]) (by kernel_rfl) (by first | exact SubH.refl | exact SubH.app | exact SubH.both (by simp [subL])) ?_
      refine AAny.takes (fuel := 9) (by kernel_rfl) (by kernel_rfl) [0, 1, 2, 3, 4, 9] (by kernel_rfl) (by kernel_rfl) ?_
      simp -dsimp -implicitDefEqProofs (disch := omega) [go_sem, -List.getD_eq_getElem?_getD, ite_yes, lf, h0, h0']
      refine AAny.two 8 5 10 (by kernel_rfl) (by kernel_rfl) (by kernel_rfl) ?_ ?_
      · simp -dsimp -implicitDefEqProofs (disch := omega) [go_sem, -List.getD_eq_getElem?_getD, ite_yes, lf, h0, h0']
        refine ACall.via (pick_R (h.curAt cc (by omega) _) (by omega) l.length (by omega)) ?_
        rintro _ _ ⟨r, rfl, r0, r1, a6, s6, q6, q6', rfl⟩
        obtain ⟨k0, rfl⟩ : ∃ k : Nat, r = (k : Int) := ⟨r.toNat, by omega⟩
        have hk : k0 < l.length := by omega
        have hki : (k0 : Int) < (l.length : Int) := by omega
        have hk4 : k0 * 4 + 1 + 1 ≤ l.length * 4 := by omega
        have hkc : List.take 1 (List.drop (k0 * 4 + 1) (l.flatMap blE)) = [.int .i64 (l.getD k0 (0, 0, 0, 0)).2.1] := (by have h2 := congrArg (fun z => List.take 1 (List.drop 1 z)) (flatMap_cells blE 4 (fun _ => rfl) (0, 0, 0, 0) l k0 hk); simp only [List.drop_take, List.drop_drop, List.take_take] at h2; exact h2)
        simp -dsimp -implicitDefEqProofs (disch := omega) [go_sem, -List.getD_eq_getElem?_getD, ite_yes, lf, h0, h0', hk, hki, hkc, hk4]
        first | refine AAt.of (by first | exact SubH.refl | exact SubH.app | exact SubH.both (by simp [subL])) ?_ | (refine ⟨?_, AAt.of (by first | exact SubH.refl | exact SubH.app | exact SubH.both (by simp [subL])) ?_⟩; · omega)
        refine AAny.takes (fuel := 6) (by kernel_rfl) (by kernel_rfl) [6, 7] (by kernel_rfl) (by kernel_rfl) ?_
        simp -dsimp -implicitDefEqProofs (disch := omega) [go_sem, -List.getD_eq_getElem?_getD, ite_yes, lf, h0, h0', hk, hki, hkc, hk4]
        refine AAny.two 5 8 10 (by kernel_rfl) (by kernel_rfl) (by kernel_rfl) ?_ ?_
        · simp -dsimp -implicitDefEqProofs (disch := omega) [go_sem, -List.getD_eq_getElem?_getD, ite_yes, lf, h0, h0', hk, hki, hkc, hk4]
          first | refine AAt.of (by first | exact SubH.refl | exact SubH.app | exact SubH.both (by simp [subL])) ?_ | (refine ⟨?_, AAt.of (by first | exact SubH.refl | exact SubH.app | exact SubH.both (by simp [subL])) ?_⟩; · omega)
          refine AAny.one 4 10 (by kernel_rfl) (by kernel_rfl) (by kernel_rfl) ?_
          simp -dsimp -implicitDefEqProofs (disch := omega) [go_sem, -List.getD_eq_getElem?_getD, ite_yes, lf, h0, h0', hk, hki, hkc, hk4]
          first | refine AAt.of (by first | exact SubH.refl | exact SubH.app | exact SubH.both (by simp [subL])) ?_ | (refine ⟨?_, AAt.of (by first | exact SubH.refl | exact SubH.app | exact SubH.both (by simp [subL])) ?_⟩; · omega)
          refine AAny.one 3 11 (by kernel_rfl) (by kernel_rfl) (by kernel_rfl) ?_
          simp -dsimp -implicitDefEqProofs (disch := omega) [go_sem, -List.getD_eq_getElem?_getD, ite_yes, lf, h0, h0', hk, hki, hkc, hk4]
          refine ACall.via (among_R (h.curAt cc (by omega) _) (by omega) [0, 30, 31, 60, 61, 90, 91, 400] (by simp) (by simp) _ _ (by omega) (Sl.nth 2 rfl rfl)) ?_
          rintro _ _ ⟨x, rfl, xm, a7, s7, q7, q7', rfl⟩
          simp -dsimp -implicitDefEqProofs (disch := omega) [go_sem, -List.getD_eq_getElem?_getD, ite_yes, lf, h0, h0', hk, hki, hkc, hk4]
          first | refine AAt.of (by first | exact SubH.refl | exact SubH.app | exact SubH.both (by simp [subL])) ?_ | (refine ⟨?_, AAt.of (by first | exact SubH.refl | exact SubH.app | exact SubH.both (by simp [subL])) ?_⟩; · omega)
          refine AAny.takes (fuel := 0) (by kernel_rfl) (by kernel_rfl) [12, 13, 14] (by kernel_rfl) (by kernel_rfl) ?_
          simp -dsimp -implicitDefEqProofs (disch := omega) [go_sem, -List.getD_eq_getElem?_getD, ite_yes, lf, h0, h0', hk, hki, hkc, hk4]
          refine AAny.done (by kernel_rfl) ?_
          simp -dsimp -implicitDefEqProofs (disch := omega) [go_sem, -List.getD_eq_getElem?_getD, ite_yes, lf, h0, h0', hk, hki, hkc, hk4]
          exact pbln_end 1 rfl l1
        · simp -dsimp -implicitDefEqProofs (disch := omega) [go_sem, -List.getD_eq_getElem?_getD, ite_yes, lf, h0, h0', hk, hki, hkc, hk4]
          first | refine AAt.of (by first | exact SubH.refl | exact SubH.app | exact SubH.both (by simp [subL])) ?_ | (refine ⟨?_, AAt.of (by first | exact SubH.refl | exact SubH.app | exact SubH.both (by simp [subL])) ?_⟩; · omega)
          refine AAny.two 4 8 11 (by kernel_rfl) (by kernel_rfl) (by kernel_rfl) ?_ ?_
          · simp -dsimp -implicitDefEqProofs (disch := omega) [go_sem, -List.getD_eq_getElem?_getD, ite_yes, lf, h0, h0', hk, hki, hkc, hk4]
            first | refine AAt.of (by first | exact SubH.refl | exact SubH.app | exact SubH.both (by simp [subL])) ?_ | (refine ⟨?_, AAt.of (by first | exact SubH.refl | exact SubH.app | exact SubH.both (by simp [subL])) ?_⟩; · omega)
            refine AAny.one 3 11 (by kernel_rfl) (by kernel_rfl) (by kernel_rfl) ?_
            simp -dsimp -implicitDefEqProofs (disch := omega) [go_sem, -List.getD_eq_getElem?_getD, ite_yes, lf, h0, h0', hk, hki, hkc, hk4]
            refine ACall.via (among_R (h.curAt cc (by omega) _) (by omega) [0, 30, 31, 60, 61, 90, 91, 400] (by simp) (by simp) _ _ (by omega) (Sl.nth 2 rfl rfl)) ?_
            rintro _ _ ⟨x, rfl, xm, a7, s7, q7, q7', rfl⟩
            simp -dsimp -implicitDefEqProofs (disch := omega) [go_sem, -List.getD_eq_getElem?_getD, ite_yes, lf, h0, h0', hk, hki, hkc, hk4]
            first | refine AAt.of (by first | exact SubH.refl | exact SubH.app | exact SubH.both (by simp [subL])) ?_ | (refine ⟨?_, AAt.of (by first | exact SubH.refl | exact SubH.app | exact SubH.both (by simp [subL])) ?_⟩; · omega)
            refine AAny.takes (fuel := 0) (by kernel_rfl) (by kernel_rfl) [12, 13, 14] (by kernel_rfl) (by kernel_rfl) ?_
            simp -dsimp -implicitDefEqProofs (disch := omega) [go_sem, -List.getD_eq_getElem?_getD, ite_yes, lf, h0, h0', hk, hki, hkc, hk4]
            refine AAny.done (by kernel_rfl) ?_
            simp -dsimp -implicitDefEqProofs (disch := omega) [go_sem, -List.getD_eq_getElem?_getD, ite_yes, lf, h0, h0', hk, hki, hkc, hk4]
            exact pbln_end 1 rfl l1
          · simp -dsimp -implicitDefEqProofs (disch := omega) [go_sem, -List.getD_eq_getElem?_getD, ite_yes, lf, h0, h0', hk, hki, hkc, hk4]
            refine ACall.via (among_R (h.curAt cc (by omega) _) (by omega) [0, 30, 31, 60, 61, 90, 91, 400] (by simp) (by simp) _ _ (by omega) (Sl.nth 2 rfl rfl)) ?_
            rintro _ _ ⟨x, rfl, xm, a7, s7, q7, q7', rfl⟩
            simp -dsimp -implicitDefEqProofs (disch := omega) [go_sem, -List.getD_eq_getElem?_getD, ite_yes, lf, h0, h0', hk, hki, hkc, hk4]
            first | refine AAt.of (by first | exact SubH.refl | exact SubH.app | exact SubH.both (by simp [subL])) ?_ | (refine ⟨?_, AAt.of (by first | exact SubH.refl | exact SubH.app | exact SubH.both (by simp [subL])) ?_⟩; · omega)
            refine AAny.takes (fuel := 3) (by kernel_rfl) (by kernel_rfl) [13] (by kernel_rfl) (by kernel_rfl) ?_
            simp -dsimp -implicitDefEqProofs (disch := omega) [go_sem, -List.getD_eq_getElem?_getD, ite_yes, lf, h0, h0', hk, hki, hkc, hk4]
            refine AAny.one 2 8 (by kernel_rfl) (by kernel_rfl) (by kernel_rfl) ?_
            simp -dsimp -implicitDefEqProofs (disch := omega) [go_sem, -List.getD_eq_getElem?_getD, ite_yes, lf, h0, h0', hk, hki, hkc, hk4]
            first | refine AAt.of (by first | exact SubH.refl | exact SubH.app | exact SubH.both (by simp [subL])) ?_ | (refine ⟨?_, AAt.of (by first | exact SubH.refl | exact SubH.app | exact SubH.both (by simp [subL])) ?_⟩; · omega)
            refine AAny.takes (fuel := 0) (by kernel_rfl) (by kernel_rfl) [12, 14] (by kernel_rfl) (by kernel_rfl) ?_
            simp -dsimp -implicitDefEqProofs (disch := omega) [go_sem, -List.getD_eq_getElem?_getD, ite_yes, lf, h0, h0', hk, hki, hkc, hk4]
            refine AAny.done (by kernel_rfl) ?_
            simp -dsimp -implicitDefEqProofs (disch := omega) [go_sem, -List.getD_eq_getElem?_getD, ite_yes, lf, h0, h0', hk, hki, hkc, hk4]
            exact pbln_end 1 rfl l1
      · simp -dsimp -implicitDefEqProofs (disch := omega) [go_sem, -List.getD_eq_getElem?_getD, ite_yes, lf, h0, h0']
        first | refine AAt.of (by first | exact SubH.refl | exact SubH.app | exact SubH.both (by simp [subL])) ?_ | (refine ⟨?_, AAt.of (by first | exact SubH.refl | exact SubH.app | exact SubH.both (by simp [subL])) ?_⟩; · omega)
        refine AAny.one 7 5 (by kernel_rfl) (by kernel_rfl) (by kernel_rfl) ?_
        simp -dsimp -implicitDefEqProofs (disch := omega) [go_sem, -List.getD_eq_getElem?_getD, ite_yes, lf, h0, h0']
        refine ACall.via (pick_R (h.curAt cc (by omega) _) (by omega) l.length (by omega)) ?_
        rintro _ _ ⟨r, rfl, r0, r1, a6, s6, q6, q6', rfl⟩
        obtain ⟨k0, rfl⟩ : ∃ k : Nat, r = (k : Int) := ⟨r.toNat, by omega⟩
        have hk : k0 < l.length := by omega
        have hki : (k0 : Int) < (l.length : Int) := by omega
        have hk4 : k0 * 4 + 1 + 1 ≤ l.length * 4 := by omega
        have hkc : List.take 1 (List.drop (k0 * 4 + 1) (l.flatMap blE)) = [.int .i64 (l.getD k0 (0, 0, 0, 0)).2.1] := (by have h2 := congrArg (fun z => List.take 1 (List.drop 1 z)) (flatMap_cells blE 4 (fun _ => rfl) (0, 0, 0, 0) l k0 hk); simp only [List.drop_take, List.drop_drop, List.take_take] at h2; exact h2)
        simp -dsimp -implicitDefEqProofs (disch := omega) [go_sem, -List.getD_eq_getElem?_getD, ite_yes, lf, h0, h0', hk, hki, hkc, hk4]
        first | refine AAt.of (by first | exact SubH.refl | exact SubH.app | exact SubH.both (by simp [subL])) ?_ | (refine ⟨?_, AAt.of (by first | exact SubH.refl | exact SubH.app | exact SubH.both (by simp [subL])) ?_⟩; · omega)
        refine AAny.takes (fuel := 5) (by kernel_rfl) (by kernel_rfl) [6, 7] (by kernel_rfl) (by kernel_rfl) ?_
        simp -dsimp -implicitDefEqProofs (disch := omega) [go_sem, -List.getD_eq_getElem?_getD, ite_yes, lf, h0, h0', hk, hki, hkc, hk4]
        refine AAny.two 4 8 11 (by kernel_rfl) (by kernel_rfl) (by kernel_rfl) ?_ ?_
        · simp -dsimp -implicitDefEqProofs (disch := omega) [go_sem, -List.getD_eq_getElem?_getD, ite_yes, lf, h0, h0', hk, hki, hkc, hk4]
          first | refine AAt.of (by first | exact SubH.refl | exact SubH.app | exact SubH.both (by simp [subL])) ?_ | (refine ⟨?_, AAt.of (by first | exact SubH.refl | exact SubH.app | exact SubH.both (by simp [subL])) ?_⟩; · omega)
          refine AAny.one 3 11 (by kernel_rfl) (by kernel_rfl) (by kernel_rfl) ?_
          simp -dsimp -implicitDefEqProofs (disch := omega) [go_sem, -List.getD_eq_getElem?_getD, ite_yes, lf, h0, h0', hk, hki, hkc, hk4]
          refine ACall.via (among_R (h.curAt cc (by omega) _) (by omega) [0, 30, 31, 60, 61, 90, 91, 400] (by simp) (by simp) _ _ (by omega) (Sl.nth 2 rfl rfl)) ?_
          rintro _ _ ⟨x, rfl, xm, a7, s7, q7, q7', rfl⟩
          simp -dsimp -implicitDefEqProofs (disch := omega) [go_sem, -List.getD_eq_getElem?_getD, ite_yes, lf, h0, h0', hk, hki, hkc, hk4]
          first | refine AAt.of (by first | exact SubH.refl | exact SubH.app | exact SubH.both (by simp [subL])) ?_ | (refine ⟨?_, AAt.of (by first | exact SubH.refl | exact SubH.app | exact SubH.both (by simp [subL])) ?_⟩; · omega)
          refine AAny.takes (fuel := 0) (by kernel_rfl) (by kernel_rfl) [12, 13, 14] (by kernel_rfl) (by kernel_rfl) ?_
          simp -dsimp -implicitDefEqProofs (disch := omega) [go_sem, -List.getD_eq_getElem?_getD, ite_yes, lf, h0, h0', hk, hki, hkc, hk4]
          refine AAny.done (by kernel_rfl) ?_
          simp -dsimp -implicitDefEqProofs (disch := omega) [go_sem, -List.getD_eq_getElem?_getD, ite_yes, lf, h0, h0', hk, hki, hkc, hk4]
          exact pbln_end 1 rfl l1
        · simp -dsimp -implicitDefEqProofs (disch := omega) [go_sem, -List.getD_eq_getElem?_getD, ite_yes, lf, h0, h0', hk, hki, hkc, hk4]
          refine ACall.via (among_R (h.curAt cc (by omega) _) (by omega) [0, 30, 31, 60, 61, 90, 91, 400] (by simp) (by simp) _ _ (by omega) (Sl.nth 2 rfl rfl)) ?_
          rintro _ _ ⟨x, rfl, xm, a7, s7, q7, q7', rfl⟩
          simp -dsimp -implicitDefEqProofs (disch := omega) [go_sem, -List.getD_eq_getElem?_getD, ite_yes, lf, h0, h0', hk, hki, hkc, hk4]
          first | refine AAt.of (by first | exact SubH.refl | exact SubH.app | exact SubH.both (by simp [subL])) ?_ | (refine ⟨?_, AAt.of (by first | exact SubH.refl | exact SubH.app | exact SubH.both (by simp [subL])) ?_⟩; · omega)
          refine AAny.takes (fuel := 3) (by kernel_rfl) (by kernel_rfl) [13] (by kernel_rfl) (by kernel_rfl) ?_
          simp -dsimp -implicitDefEqProofs (disch := omega) [go_sem, -List.getD_eq_getElem?_getD, ite_yes, lf, h0, h0', hk, hki, hkc, hk4]
          refine AAny.one 2 8 (by kernel_rfl) (by kernel_rfl) (by kernel_rfl) ?_
          simp -dsimp -implicitDefEqProofs (disch := omega) [go_sem, -List.getD_eq_getElem?_getD, ite_yes, lf, h0, h0', hk, hki, hkc, hk4]
          first | refine AAt.of (by first | exact SubH.refl | exact SubH.app | exact SubH.both (by simp [subL])) ?_ | (refine ⟨?_, AAt.of (by first | exact SubH.refl | exact SubH.app | exact SubH.both (by simp [subL])) ?_⟩; · omega)
          refine AAny.takes (fuel := 0) (by kernel_rfl) (by kernel_rfl) [12, 14] (by kernel_rfl) (by kernel_rfl) ?_
          simp -dsimp -implicitDefEqProofs (disch := omega) [go_sem, -List.getD_eq_getElem?_getD, ite_yes, lf, h0, h0', hk, hki, hkc, hk4]
          refine AAny.done (by kernel_rfl) ?_
          simp -dsimp -implicitDefEqProofs (disch := omega) [go_sem, -List.getD_eq_getElem?_getD, ite_yes, lf, h0, h0', hk, hki, hkc, hk4]
          exact pbln_end 1 rfl l1
    · simp -dsimp -implicitDefEqProofs (disch := omega) [go_sem, -List.getD_eq_getElem?_getD, ite_yes]
      refine ACall.via (among_R (h.curAt cc (by omega) _) (by omega) [0, 300, 3650, -1, 3651] (by simp) (by simp) _ _ (by omega) (Sl.nth 2 rfl rfl)) ?_
      rintro _ _ ⟨x, rfl, xm, a3, s3, q3, q3', rfl⟩
      simp -dsimp -implicitDefEqProofs (disch := omega) [go_sem, -List.getD_eq_getElem?_getD, ite_yes]
      exact pbln_end 1 rfl l1
  · have h0' : ¬ (0 : Int) < (l.length : Int) := by omega
    simp -dsimp -implicitDefEqProofs (disch := omega) [go_sem, -List.getD_eq_getElem?_getD, ite_yes, h0, h0']
    refine ACall.via (among_R (h.curAt cc (by omega) _) (by omega) [0, 300, 3650, -1, 3651] (by simp) (by simp) _ _ (by omega) (Sl.nth 2 rfl rfl)) ?_
    rintro _ _ ⟨x, rfl, xm, a3, s3, q3, q3', rfl⟩
    simp -dsimp -implicitDefEqProofs (disch := omega) [go_sem, -List.getD_eq_getElem?_getD, ite_yes]
    exact pbln_end 1 rfl l1
end Go.Proofs.YthnnbgggfpempaaDoor
