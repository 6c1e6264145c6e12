/- What the bills' laws draw. -/
import Derived.Test.YtappbdfieccfeaaDrawTar
namespace Go.Proofs.Ytappbdfieccfeaa
open Go.Am
set_option linter.unusedVariables false
set_option linter.unusedSimpArgs false
set_option maxRecDepth 100000
set_option maxHeartbeats 4000000

/-- bills -/
def PBlsO (H : Heap) (v : Value) (H' : Heap) : Prop := ∃ l : List Bl, v = .slice (some ⟨H.length, 0, none⟩) l.length l.length ∧ l.length ≤ 20 ∧ H' = H ++ [some ⟨l.flatMap blE, true, 62, 4⟩]
/-- bills and a number -/
def PBlN (H : Heap) (v : Value) (H' : Heap) : Prop := ∃ (l : List Bl) (x : Int), v = .tuple #[.slice (some ⟨H.length, 0, none⟩) l.length l.length, .int .i64 x] ∧ l.length ≤ 20 ∧ H' = H ++ [some ⟨l.flatMap blE, true, 62, 4⟩]
theorem pbln_end {H L : Heap} {l : List Bl} {x : Int} (i : Nat) (hb : Heap.get L i = some ⟨l.flatMap blE, true, 62, 4⟩) (l1 : l.length ≤ 20) :
    EndR H (PBlN H) (.tuple #[.slice (some ⟨H.length + i, 0, none⟩) l.length l.length, .int .i64 x]) (H ++ L) := by
  refine EndR.of (.tuple #[.slice (some ⟨H.length, 0, none⟩) l.length l.length, .int .i64 x]) _ ⟨l, x, rfl, l1, rfl⟩ (fin_list [some i] rfl ?_ ?_)
  · simp only [wkL, hb]
    exact ⟨⟨trivial, trivial, id, .inl ⟨rfl, blE_flat _⟩⟩, trivial⟩
  · simp -dsimp -implicitDefEqProofs (disch := omega) [go_sem, -List.getD_eq_getElem?_getD, ite_yes, sg]
/-- two numbers -/
def PTwo (H : Heap) (v : Value) (H' : Heap) : Prop := ∃ x y : Int, v = .tuple #[.int .i64 x, .int .i64 y] ∧ H' = H
/-- bills, a tariff and two numbers -/
def PMake (H : Heap) (v : Value) (H' : Heap) : Prop := ∃ (l : List Bl) (N : Int) (xs bs : List Bk) (off cp : Nat) (vol day : Int), v = .tuple #[.slice (some ⟨H.length, 0, none⟩) l.length l.length, .agg #[.int .i64 N, .slice (some ⟨H.length + 1, off, none⟩) bs.length cp], .int .i64 vol, .int .i64 day] ∧ l.length ≤ 20 ∧ bs.length ≤ 20 ∧
  List.drop off (xs.flatMap bkE) = bs.flatMap bkE ∧ H' = H ++ [some ⟨l.flatMap blE, true, 62, 4⟩, some ⟨xs.flatMap bkE, true, 87, 2⟩]
theorem drawIsValidBills_R {H : Heap} {tc n : Nat} (h : Bytes H tc n) (cc : Nat) : AFunR Try.prog 63 [.slice (some ⟨tc, 0, none⟩) n cc] H (PBlsO H) := by
  refine AFunR.of_body Try.func63 (by kernel_rfl) rfl (by kernel_rfl) (by simp [Try.ntmps63]) ?_
  have ht := h.lt
  simp -dsimp -implicitDefEqProofs (disch := omega) [go_sem, -List.getD_eq_getElem?_getD, ite_yes]
  refine ACall.via (bills_R (h.cur cc) (by omega)) ?_
  rintro _ _ ⟨l, a5, s5, rfl, l1, q5, q5', rfl⟩
  simp -dsimp -implicitDefEqProofs (disch := omega) [go_sem, -List.getD_eq_getElem?_getD, ite_yes]
  refine EndR.of (.slice (some ⟨H.length, 0, none⟩) l.length l.length) _ ⟨l, rfl, l1, rfl⟩ (fin_list [some 1] rfl ?_ (by simp -dsimp -implicitDefEqProofs (disch := omega) [go_sem, -List.getD_eq_getElem?_getD, ite_yes]))
  simp -dsimp -implicitDefEqProofs (disch := omega) [go_sem, -List.getD_eq_getElem?_getD, ite_yes]
  exact .inl ⟨rfl, blE_flat _⟩
theorem drawOldestOpen_R {H : Heap} {tc n : Nat} (h : Bytes H tc n) (cc : Nat) : AFunR Try.prog 35 [.slice (some ⟨tc, 0, none⟩) n cc] H (PBlsO H) := by
  refine AFunR.of_body Try.func35 (by kernel_rfl) rfl (by kernel_rfl) (by simp [Try.ntmps35]) ?_
  have ht := h.lt
  simp -dsimp -implicitDefEqProofs (disch := omega) [go_sem, -List.getD_eq_getElem?_getD, ite_yes]
  refine ACall.via (drawIsValidBills_R h cc) ?_
  rintro _ _ ⟨l, rfl, l1, rfl⟩
  simp -dsimp -implicitDefEqProofs (disch := omega) [go_sem, -List.getD_eq_getElem?_getD, ite_yes]
  refine EndR.of (.slice (some ⟨H.length, 0, none⟩) l.length l.length) _ ⟨l, rfl, l1, rfl⟩ (fin_list [some 0] rfl ?_ (by simp -dsimp -implicitDefEqProofs (disch := omega) [go_sem, -List.getD_eq_getElem?_getD, ite_yes]))
  simp -dsimp -implicitDefEqProofs (disch := omega) [go_sem, -List.getD_eq_getElem?_getD, ite_yes]
  exact .inl ⟨rfl, blE_flat _⟩
theorem drawPayBills_R {H : Heap} {tc n : Nat} (h : Bytes H tc n) (cc : Nat) : AFunR Try.prog 20 [.slice (some ⟨tc, 0, none⟩) n cc] H (PBlN H) := by
  refine AFunR.of_body Try.func20 (by kernel_rfl) rfl (by kernel_rfl) (by simp [Try.ntmps20]) ?_
  have ht := h.lt
  simp -dsimp -implicitDefEqProofs (disch := omega) [go_sem, -List.getD_eq_getElem?_getD, ite_yes]
  refine ACall.via (bills_R (h.cur cc) (by omega)) ?_
  rintro _ _ ⟨l, a5, s5, rfl, l1, q5, q5', rfl⟩
  simp -dsimp -implicitDefEqProofs (disch := omega) [go_sem, -List.getD_eq_getElem?_getD, ite_yes]
  refine ACall.via (pick_R (h.curAt cc (by omega) _) (by omega) 24 (by omega)) ?_
  rintro _ _ ⟨r, rfl, r0, r1, a2, s2, q2, q2', rfl⟩
  obtain ⟨k0, rfl⟩ : ∃ k : Nat, r = (k : Int) := ⟨r.toNat, by omega⟩
  obtain ⟨m5, hm5, hm6⟩ : ∃ m5 : Nat, 6 + (k0 : Int) / 11 = m5 ∧ 6 ≤ m5 ∧ m5 ≤ 8 := ⟨6 + k0 / 11, by omega, by omega, by omega⟩
  simp -dsimp -implicitDefEqProofs (disch := omega) [go_sem, -List.getD_eq_getElem?_getD, ite_yes, hm5]
  obtain ⟨w5, hw5⟩ : ∃ w5, w5 = ([0, 1, 50, 12345, 20000, 1000000000, -1, 1000000001] : List Int).take m5 := ⟨_, rfl⟩
  have hl5 : w5.length = m5 := by rw [hw5, List.length_take]; simp; omega
  rw [← hl5]
  refine ACall.via (among_R (h.curAt cc (by omega) _) (by omega) w5 (by omega) (by omega) _ _ (by omega) (hw5 ▸ (Sl.nth (l := [0, 1, 50, 12345, 20000, 1000000000, -1, 1000000001]) 2 rfl rfl).take m5)) ?_
  rintro _ _ ⟨x, rfl, xm, a3, s3, q3, q3', rfl⟩
  simp -dsimp -implicitDefEqProofs (disch := omega) [go_sem, -List.getD_eq_getElem?_getD, ite_yes]
  exact pbln_end 1 rfl l1
theorem drawRefundBill_R {H : Heap} {tc n : Nat} (h : Bytes H tc n) (cc : Nat) : AFunR Try.prog 27 [.slice (some ⟨tc, 0, none⟩) n cc] H (PBlN H) := by
  refine AFunR.of_body Try.func27 (by kernel_rfl) rfl (by kernel_rfl) (by simp [Try.ntmps27]) ?_
  have ht := h.lt
  simp -dsimp -implicitDefEqProofs (disch := omega) [go_sem, -List.getD_eq_getElem?_getD, ite_yes]
  refine ACall.via (bills_R (h.cur cc) (by omega)) ?_
  rintro _ _ ⟨l, a5, s5, rfl, l1, q5, q5', rfl⟩
  have lf := blE_length l
  by_cases h0 : 0 < l.length
  · have h0' : (0 : Int) < (l.length : Int) := by omega
    simp -dsimp -implicitDefEqProofs (disch := omega) [go_sem, -List.getD_eq_getElem?_getD, ite_yes, h0, h0']
    refine ACall.via (one_R (h.curAt cc (by omega) _) (by omega) 5 (by omega)) ?_
    rintro _ _ ⟨b, rfl, a4, s4, q4, q4', rfl⟩
    cases b
    · simp -dsimp -implicitDefEqProofs (disch := omega) [go_sem, -List.getD_eq_getElem?_getD, ite_yes]
      refine ADraw.any [] (by kernel_rfl) (SubH.nil) ?_
      refine AAny.takes (fuel := 6) (by kernel_rfl) (by kernel_rfl) [0, 1, 2, 3, 4] (by kernel_rfl) (by kernel_rfl) ?_
      simp -dsimp -implicitDefEqProofs (disch := omega) [go_sem, -List.getD_eq_getElem?_getD, ite_yes, ht, lf]
      refine AAny.one 5 5 (by kernel_rfl) (by kernel_rfl) (by kernel_rfl) ?_
      simp -dsimp -implicitDefEqProofs (disch := omega) [go_sem, -List.getD_eq_getElem?_getD, ite_yes, ht, lf]
      refine ACall.via (pick_R (h.curAt cc (by omega) _) (by omega) l.length (by omega)) ?_
      rintro _ _ ⟨r, rfl, r0, r1, a6, s6, q6, q6', rfl⟩
      obtain ⟨k0, rfl⟩ : ∃ k : Nat, r = (k : Int) := ⟨r.toNat, by omega⟩
      have hk : k0 < l.length := by omega
      have hki : (k0 : Int) < (l.length : Int) := by omega
      have hk4 : k0 * 4 + 1 ≤ l.length * 4 := by omega
      have hkc : List.take 1 (List.drop (k0 * 4) (l.flatMap blE)) = [.int .i64 (l.getD k0 (0, 0, 0, 0)).1] := (by have h2 : List.take 1 (List.take 4 (List.drop (k0 * 4) (l.flatMap blE))) = [.int .i64 (l.getD k0 (0, 0, 0, 0)).1] := (congrArg (List.take 1) (flatMap_cells blE 4 (fun _ => rfl) (0, 0, 0, 0) l k0 hk)); rwa [List.take_take] at h2)
      simp -dsimp -implicitDefEqProofs (disch := omega) [go_sem, -List.getD_eq_getElem?_getD, ite_yes, ht, lf, hk, hki, hkc, hk4]
      first | refine AAt.of (SubH.nil) ?_ | (refine ⟨?_, AAt.of (SubH.nil) ?_⟩; · omega)
      refine AAny.takes (fuel := 2) (by kernel_rfl) (by kernel_rfl) [6, 7, 9] (by kernel_rfl) (by kernel_rfl) ?_
      simp -dsimp -implicitDefEqProofs (disch := omega) [go_sem, -List.getD_eq_getElem?_getD, ite_yes, ht, lf, hk, hki, hkc, hk4]
      refine AAny.one 1 8 (by kernel_rfl) (by kernel_rfl) (by kernel_rfl) ?_
      simp -dsimp -implicitDefEqProofs (disch := omega) [go_sem, -List.getD_eq_getElem?_getD, ite_yes, ht, lf, hk, hki, hkc, hk4]
      first | refine AAt.of (SubH.nil) ?_ | (refine ⟨?_, AAt.of (SubH.nil) ?_⟩; · omega)
      refine AAny.takes (fuel := 0) (by kernel_rfl) (by kernel_rfl) [10] (by kernel_rfl) (by kernel_rfl) ?_
      simp -dsimp -implicitDefEqProofs (disch := omega) [go_sem, -List.getD_eq_getElem?_getD, ite_yes, ht, lf, hk, hki, hkc, hk4]
      refine AAny.done (by kernel_rfl) ?_
      simp -dsimp -implicitDefEqProofs (disch := omega) [go_sem, -List.getD_eq_getElem?_getD, ite_yes, ht, lf, hk, hki, hkc, hk4]
      exact pbln_end 1 rfl l1
    · simp -dsimp -implicitDefEqProofs (disch := omega) [go_sem, -List.getD_eq_getElem?_getD, ite_yes]
      refine ACall.via (among_R (h.curAt cc (by omega) _) (by omega) [0, 1, 50] (by simp) (by simp) _ _ (by omega) (Sl.nth 2 rfl rfl)) ?_
      rintro _ _ ⟨x, rfl, xm, a3, s3, q3, q3', rfl⟩
      simp -dsimp -implicitDefEqProofs (disch := omega) [go_sem, -List.getD_eq_getElem?_getD, ite_yes]
      exact pbln_end 1 rfl l1
  · have h0' : ¬ (0 : Int) < (l.length : Int) := by omega
    simp -dsimp -implicitDefEqProofs (disch := omega) [go_sem, -List.getD_eq_getElem?_getD, ite_yes, h0, h0']
    refine ACall.via (among_R (h.curAt cc (by omega) _) (by omega) [0, 1, 50] (by simp) (by simp) _ _ (by omega) (Sl.nth 2 rfl rfl)) ?_
    rintro _ _ ⟨x, rfl, xm, a3, s3, q3, q3', rfl⟩
    simp -dsimp -implicitDefEqProofs (disch := omega) [go_sem, -List.getD_eq_getElem?_getD, ite_yes]
    exact pbln_end 1 rfl l1
theorem drawInstallments_R {H : Heap} {tc n : Nat} (h : Bytes H tc n) (cc : Nat) : AFunR Try.prog 28 [.slice (some ⟨tc, 0, none⟩) n cc] H (PTwo H) := by
  refine AFunR.of_body Try.func28 (by kernel_rfl) rfl (by kernel_rfl) (by simp [Try.ntmps28]) ?_
  have ht := h.lt
  simp -dsimp -implicitDefEqProofs (disch := omega) [go_sem, -List.getD_eq_getElem?_getD, ite_yes]
  refine ACall.via (pick_R (h.curAt cc (by omega) _) (by omega) 24 (by omega)) ?_
  rintro _ _ ⟨r, rfl, r0, r1, a2, s2, q2, q2', rfl⟩
  obtain ⟨k0, rfl⟩ : ∃ k : Nat, r = (k : Int) := ⟨r.toNat, by omega⟩
  obtain ⟨m5, hm5, hm6⟩ : ∃ m5 : Nat, 5 + (k0 : Int) / 11 = m5 ∧ 5 ≤ m5 ∧ m5 ≤ 7 := ⟨5 + k0 / 11, by omega, by omega, by omega⟩
  simp -dsimp -implicitDefEqProofs (disch := omega) [go_sem, -List.getD_eq_getElem?_getD, ite_yes, hm5]
  obtain ⟨w5, hw5⟩ : ∃ w5, w5 = ([1, 7, 100, 12345, 1000000000, 0, 1000000001] : List Int).take m5 := ⟨_, rfl⟩
  have hl5 : w5.length = m5 := by rw [hw5, List.length_take]; simp; omega
  rw [← hl5]
  refine ACall.via (among_R (h.curAt cc (by omega) _) (by omega) w5 (by omega) (by omega) _ _ (by omega) (hw5 ▸ (Sl.nth (l := [1, 7, 100, 12345, 1000000000, 0, 1000000001]) 1 rfl rfl).take m5)) ?_
  rintro _ _ ⟨x, rfl, xm, a3, s3, q3, q3', rfl⟩
  clear hm5 hl5
  simp -dsimp -implicitDefEqProofs (disch := omega) [go_sem, -List.getD_eq_getElem?_getD, ite_yes]
  refine ACall.via (pick_R (h.curAt cc (by omega) _) (by omega) 24 (by omega)) ?_
  rintro _ _ ⟨r, rfl, r0, r1, a2, s2, q2, q2', rfl⟩
  obtain ⟨k0, rfl⟩ : ∃ k : Nat, r = (k : Int) := ⟨r.toNat, by omega⟩
  obtain ⟨m6, hm5, hm6⟩ : ∃ m5 : Nat, 5 + (k0 : Int) / 11 = m5 ∧ 5 ≤ m5 ∧ m5 ≤ 7 := ⟨5 + k0 / 11, by omega, by omega, by omega⟩
  simp -dsimp -implicitDefEqProofs (disch := omega) [go_sem, -List.getD_eq_getElem?_getD, ite_yes, hm5]
  obtain ⟨w5, hw5⟩ : ∃ w5, w5 = ([1, 2, 3, 7, 12, 0, 13] : List Int).take m6 := ⟨_, rfl⟩
  have hl5 : w5.length = m6 := by rw [hw5, List.length_take]; simp; omega
  rw [← hl5]
  refine ACall.via (among_R (h.curAt cc (by omega) _) (by omega) w5 (by omega) (by omega) _ _ (by omega) (hw5 ▸ (Sl.nth (l := [1, 2, 3, 7, 12, 0, 13]) 2 rfl rfl).take m6)) ?_
  rintro _ _ ⟨y, rfl, ym, a3, s3, q3, q3', rfl⟩
  simp -dsimp -implicitDefEqProofs (disch := omega) [go_sem, -List.getD_eq_getElem?_getD, ite_yes]
  exact EndR.of (.tuple #[.int .i64 x, .int .i64 y]) _ ⟨x, y, rfl, rfl⟩ (fin_flat rfl rfl)
def PVol (H : Heap) (t tc n cc : Nat) (at_ : Int) (v : Value) (H' : Heap) : Prop := ∃ x a s : Int, v = .int .i64 x ∧ at_ ≤ a ∧ a ≤ at_ + 4 ∧ H' = H.set t (curB tc n cc a s)
theorem volume_R {H : Heap} {t tc n cc : Nat} {at_ seed : Int} (h : Cur H t tc n cc at_ seed) (hA : at_ ≤ 10000000000000000) :
    AFunR Try.prog 59 [.pointer (some ⟨t, 0, none⟩)] H (PVol H t tc n cc at_) := by
  refine AFunR.of_body Try.func59 (by kernel_rfl) rfl (by kernel_rfl) (by simp [Try.ntmps59]) ?_
  have ht := h.lt
  have p0 := h.pos
  have si := fun (x : Option Blk) (L : Heap) (y : Option Blk) => set_into (H := H) (L := L) (x := x) ht (y := y)
  have s0 := fun (L : Heap) (y : Option Blk) => set_into0 (H := H) (L := L) ht (y := y)
  simp -dsimp -implicitDefEqProofs (disch := omega) [go_sem, -List.getD_eq_getElem?_getD, ite_yes]
  obtain ⟨Z, hZ⟩ : ∃ Z : List Value, Z = ([0, 1, 10, 11, 60, 61, 161, 20000, 99999, 100000, -1, 100001] : List Int).flatMap nmE := ⟨_, rfl⟩
  have hZ2 : ([.int .i64 0, .int .i64 1, .int .i64 10, .int .i64 11, .int .i64 60, .int .i64 61, .int .i64 161, .int .i64 20000, .int .i64 99999, .int .i64 100000, .int .i64 (-1), .int .i64 100001] : List Value) = Z := hZ.symm
  rw [hZ2]
  refine ACall.via (pick_R (h.app _) (by omega) 24 (by omega)) ?_
  rintro _ _ ⟨r, rfl, r0, r1, a2, s2, q2, q2', rfl⟩
  obtain ⟨k0, rfl⟩ : ∃ k : Nat, r = (k : Int) := ⟨r.toNat, by omega⟩
  obtain ⟨m5, hm5, hm6⟩ : ∃ m5 : Nat, 10 + (k0 : Int) / 11 = m5 ∧ 10 ≤ m5 ∧ m5 ≤ 12 := ⟨10 + k0 / 11, by omega, by omega, by omega⟩
  simp -dsimp -implicitDefEqProofs (disch := omega) [go_sem, -List.getD_eq_getElem?_getD, ite_yes, hm5, s0]
  obtain ⟨w5, hw5⟩ : ∃ w5, w5 = ([0, 1, 10, 11, 60, 61, 161, 20000, 99999, 100000, -1, 100001] : List Int).take m5 := ⟨_, rfl⟩
  have hl5 : w5.length = m5 := by rw [hw5, List.length_take]; simp; omega
  rw [← hl5]
  refine ACall.via (among_R ((h.step (by omega)).app _) (by omega) w5 (by omega) (by omega) _ _ (by omega) (hw5 ▸ (Sl.ofS (l := [0, 1, 10, 11, 60, 61, 161, 20000, 99999, 100000, -1, 100001]) hZ).take m5)) ?_
  rintro _ _ ⟨x, rfl, xm, a3, s3, q3, q3', rfl⟩
  simp -dsimp -implicitDefEqProofs (disch := omega) [go_sem, -List.getD_eq_getElem?_getD, ite_yes, si, s0]
  exact went_flat h a3 s3 _ rfl ⟨x, a3, s3, rfl, by omega, by omega, rfl⟩
theorem pmake_end {H L : Heap} {l : List Bl} {xs bs : List Bk} {N vol day : Int} {off cp : Nat} (i j : Nat) (hb1 : Heap.get L i = some ⟨l.flatMap blE, true, 62, 4⟩) (hb : Heap.get L j = some ⟨xs.flatMap bkE, true, 87, 2⟩) (hij : i ≠ j) (l1 : l.length ≤ 20) (l2 : bs.length ≤ 20) (hd : List.drop off (xs.flatMap bkE) = bs.flatMap bkE) :
    EndR H (PMake H) (.tuple #[.slice (some ⟨H.length + i, 0, none⟩) l.length l.length, .agg #[.int .i64 N, .slice (some ⟨H.length + j, off, none⟩) bs.length cp], .int .i64 vol, .int .i64 day]) (H ++ L) := by
  refine EndR.of (.tuple #[.slice (some ⟨H.length, 0, none⟩) l.length l.length, .agg #[.int .i64 N, .slice (some ⟨H.length + 1, off, none⟩) bs.length cp], .int .i64 vol, .int .i64 day]) _ ⟨l, N, xs, bs, off, cp, vol, day, rfl, l1, l2, hd, rfl⟩ (fin_list [some i, some j] (by simp [jsOk]; omega) ?_ ?_)
  · simp only [wkL, hb1, hb]
    exact ⟨⟨trivial, trivial, id, .inl ⟨rfl, blE_flat _⟩⟩, ⟨trivial, trivial, id, .inl ⟨rfl, bkE_flat _⟩⟩, trivial⟩
  · simp -dsimp -implicitDefEqProofs (disch := omega) [go_sem, -List.getD_eq_getElem?_getD, ite_yes, sg]
    try omega
theorem drawMakeBill_R {H : Heap} {tc n : Nat} (h : Bytes H tc n) (cc : Nat) : AFunR Try.prog 33 [.slice (some ⟨tc, 0, none⟩) n cc] H (PMake H) := by
  refine AFunR.of_body Try.func33 (by kernel_rfl) rfl (by kernel_rfl) (by simp [Try.ntmps33]) ?_
  have ht := h.lt
  simp -dsimp -implicitDefEqProofs (disch := omega) [go_sem, -List.getD_eq_getElem?_getD, ite_yes]
  refine ACall.via (bills_R (h.curJ 1 rfl (by omega)) (by omega)) ?_
  rintro _ _ ⟨l, a5, s5, rfl, l1, q5, q5', rfl⟩
  simp -dsimp -implicitDefEqProofs (disch := omega) [go_sem, -List.getD_eq_getElem?_getD, ite_yes]
  refine ACall.via (tariff_R (h.curJ 1 rfl (by omega)) (by omega)) ?_
  rintro _ _ ⟨N, xs, bs, off, cp, a6, s6, rfl, hd, b1, q6, q6', rfl⟩
  simp -dsimp -implicitDefEqProofs (disch := omega) [go_sem, -List.getD_eq_getElem?_getD, ite_yes]
  refine ADraw.any [] (by kernel_rfl) (SubH.nil) ?_
  refine AAny.takes (fuel := 8) (by kernel_rfl) (by kernel_rfl) [0, 2, 4] (by kernel_rfl) (by kernel_rfl) ?_
  simp -dsimp -implicitDefEqProofs (disch := omega) [go_sem, -List.getD_eq_getElem?_getD, ite_yes, ht]
  refine AAny.three 7 1 3 5 (by kernel_rfl) (by kernel_rfl) (by kernel_rfl) ?_ ?_ ?_
  · simp -dsimp -implicitDefEqProofs (disch := omega) [go_sem, -List.getD_eq_getElem?_getD, ite_yes, ht]
    first | refine AAt.of (SubH.nil) ?_ | (refine ⟨?_, AAt.of (SubH.nil) ?_⟩; · omega)
    refine AAny.two 6 3 5 (by kernel_rfl) (by kernel_rfl) (by kernel_rfl) ?_ ?_
    · simp -dsimp -implicitDefEqProofs (disch := omega) [go_sem, -List.getD_eq_getElem?_getD, ite_yes, ht]
      refine ACall.via (volume_R (h.curJ 1 rfl (by omega)) (by omega)) ?_
      rintro _ _ ⟨x, a7, s7, rfl, q7, q7', rfl⟩
      simp -dsimp -implicitDefEqProofs (disch := omega) [go_sem, -List.getD_eq_getElem?_getD, ite_yes, ht]
      first | refine AAt.of (SubH.nil) ?_ | (refine ⟨?_, AAt.of (SubH.nil) ?_⟩; · omega)
      refine AAny.one 5 5 (by kernel_rfl) (by kernel_rfl) (by kernel_rfl) ?_
      simp -dsimp -implicitDefEqProofs (disch := omega) [go_sem, -List.getD_eq_getElem?_getD, ite_yes, ht]
      first | refine AAt.of (SubH.nil) ?_ | (refine ⟨?_, AAt.of (SubH.nil) ?_⟩; · omega)
      refine AAny.one 4 6 (by kernel_rfl) (by kernel_rfl) (by kernel_rfl) ?_
      simp -dsimp -implicitDefEqProofs (disch := omega) [go_sem, -List.getD_eq_getElem?_getD, ite_yes, ht]
      refine ACall.via (among_R (h.curJ 1 rfl (by omega)) (by omega) [0, 300, 500, 3650, 3651, -1] (by simp) (by simp) _ _ (by omega) (Sl.nth 5 rfl rfl)) ?_
      rintro _ _ ⟨y, rfl, ym, a8, s8, q8, q8', rfl⟩
      simp -dsimp -implicitDefEqProofs (disch := omega) [go_sem, -List.getD_eq_getElem?_getD, ite_yes, ht]
      first | refine AAt.of (SubH.nil) ?_ | (refine ⟨?_, AAt.of (SubH.nil) ?_⟩; · omega)
      refine AAny.takes (fuel := 3) (by kernel_rfl) (by kernel_rfl) [7] (by kernel_rfl) (by kernel_rfl) ?_
      simp -dsimp -implicitDefEqProofs (disch := omega) [go_sem, -List.getD_eq_getElem?_getD, ite_yes, ht]
      refine AAny.one 2 8 (by kernel_rfl) (by kernel_rfl) (by kernel_rfl) ?_
      simp -dsimp -implicitDefEqProofs (disch := omega) [go_sem, -List.getD_eq_getElem?_getD, ite_yes, ht]
      first | refine AAt.of (SubH.nil) ?_ | (refine ⟨?_, AAt.of (SubH.nil) ?_⟩; · omega)
      refine AAny.takes (fuel := 0) (by kernel_rfl) (by kernel_rfl) [9, 10] (by kernel_rfl) (by kernel_rfl) ?_
      simp -dsimp -implicitDefEqProofs (disch := omega) [go_sem, -List.getD_eq_getElem?_getD, ite_yes, ht]
      refine AAny.done (by kernel_rfl) ?_
      simp -dsimp -implicitDefEqProofs (disch := omega) [go_sem, -List.getD_eq_getElem?_getD, ite_yes, ht]
      exact pmake_end 2 3 rfl rfl (by omega) l1 b1 hd
    · simp -dsimp -implicitDefEqProofs (disch := omega) [go_sem, -List.getD_eq_getElem?_getD, ite_yes, ht]
      first | refine AAt.of (SubH.nil) ?_ | (refine ⟨?_, AAt.of (SubH.nil) ?_⟩; · omega)
      refine AAny.one 5 3 (by kernel_rfl) (by kernel_rfl) (by kernel_rfl) ?_
      simp -dsimp -implicitDefEqProofs (disch := omega) [go_sem, -List.getD_eq_getElem?_getD, ite_yes, ht]
      refine ACall.via (volume_R (h.curJ 1 rfl (by omega)) (by omega)) ?_
      rintro _ _ ⟨x, a7, s7, rfl, q7, q7', rfl⟩
      simp -dsimp -implicitDefEqProofs (disch := omega) [go_sem, -List.getD_eq_getElem?_getD, ite_yes, ht]
      first | refine AAt.of (SubH.nil) ?_ | (refine ⟨?_, AAt.of (SubH.nil) ?_⟩; · omega)
      refine AAny.one 4 6 (by kernel_rfl) (by kernel_rfl) (by kernel_rfl) ?_
      simp -dsimp -implicitDefEqProofs (disch := omega) [go_sem, -List.getD_eq_getElem?_getD, ite_yes, ht]
      refine ACall.via (among_R (h.curJ 1 rfl (by omega)) (by omega) [0, 300, 500, 3650, 3651, -1] (by simp) (by simp) _ _ (by omega) (Sl.nth 5 rfl rfl)) ?_
      rintro _ _ ⟨y, rfl, ym, a8, s8, q8, q8', rfl⟩
      simp -dsimp -implicitDefEqProofs (disch := omega) [go_sem, -List.getD_eq_getElem?_getD, ite_yes, ht]
      first | refine AAt.of (SubH.nil) ?_ | (refine ⟨?_, AAt.of (SubH.nil) ?_⟩; · omega)
      refine AAny.takes (fuel := 3) (by kernel_rfl) (by kernel_rfl) [7] (by kernel_rfl) (by kernel_rfl) ?_
      simp -dsimp -implicitDefEqProofs (disch := omega) [go_sem, -List.getD_eq_getElem?_getD, ite_yes, ht]
      refine AAny.one 2 8 (by kernel_rfl) (by kernel_rfl) (by kernel_rfl) ?_
      simp -dsimp -implicitDefEqProofs (disch := omega) [go_sem, -List.getD_eq_getElem?_getD, ite_yes, ht]
      first | refine AAt.of (SubH.nil) ?_ | (refine ⟨?_, AAt.of (SubH.nil) ?_⟩; · omega)
      refine AAny.takes (fuel := 0) (by kernel_rfl) (by kernel_rfl) [9, 10] (by kernel_rfl) (by kernel_rfl) ?_
      simp -dsimp -implicitDefEqProofs (disch := omega) [go_sem, -List.getD_eq_getElem?_getD, ite_yes, ht]
      refine AAny.done (by kernel_rfl) ?_
      simp -dsimp -implicitDefEqProofs (disch := omega) [go_sem, -List.getD_eq_getElem?_getD, ite_yes, ht]
      exact pmake_end 2 3 rfl rfl (by omega) l1 b1 hd
  · simp -dsimp -implicitDefEqProofs (disch := omega) [go_sem, -List.getD_eq_getElem?_getD, ite_yes, ht]
    refine ACall.via (volume_R (h.curJ 1 rfl (by omega)) (by omega)) ?_
    rintro _ _ ⟨x, a7, s7, rfl, q7, q7', rfl⟩
    simp -dsimp -implicitDefEqProofs (disch := omega) [go_sem, -List.getD_eq_getElem?_getD, ite_yes, ht]
    first | refine AAt.of (SubH.nil) ?_ | (refine ⟨?_, AAt.of (SubH.nil) ?_⟩; · omega)
    refine AAny.two 6 1 5 (by kernel_rfl) (by kernel_rfl) (by kernel_rfl) ?_ ?_
    · simp -dsimp -implicitDefEqProofs (disch := omega) [go_sem, -List.getD_eq_getElem?_getD, ite_yes, ht]
      first | refine AAt.of (SubH.nil) ?_ | (refine ⟨?_, AAt.of (SubH.nil) ?_⟩; · omega)
      refine AAny.one 5 5 (by kernel_rfl) (by kernel_rfl) (by kernel_rfl) ?_
      simp -dsimp -implicitDefEqProofs (disch := omega) [go_sem, -List.getD_eq_getElem?_getD, ite_yes, ht]
      first | refine AAt.of (SubH.nil) ?_ | (refine ⟨?_, AAt.of (SubH.nil) ?_⟩; · omega)
      refine AAny.one 4 6 (by kernel_rfl) (by kernel_rfl) (by kernel_rfl) ?_
      simp -dsimp -implicitDefEqProofs (disch := omega) [go_sem, -List.getD_eq_getElem?_getD, ite_yes, ht]
      refine ACall.via (among_R (h.curJ 1 rfl (by omega)) (by omega) [0, 300, 500, 3650, 3651, -1] (by simp) (by simp) _ _ (by omega) (Sl.nth 5 rfl rfl)) ?_
      rintro _ _ ⟨y, rfl, ym, a8, s8, q8, q8', rfl⟩
      simp -dsimp -implicitDefEqProofs (disch := omega) [go_sem, -List.getD_eq_getElem?_getD, ite_yes, ht]
      first | refine AAt.of (SubH.nil) ?_ | (refine ⟨?_, AAt.of (SubH.nil) ?_⟩; · omega)
      refine AAny.takes (fuel := 3) (by kernel_rfl) (by kernel_rfl) [7] (by kernel_rfl) (by kernel_rfl) ?_
      simp -dsimp -implicitDefEqProofs (disch := omega) [go_sem, -List.getD_eq_getElem?_getD, ite_yes, ht]
      refine AAny.one 2 8 (by kernel_rfl) (by kernel_rfl) (by kernel_rfl) ?_
      simp -dsimp -implicitDefEqProofs (disch := omega) [go_sem, -List.getD_eq_getElem?_getD, ite_yes, ht]
      first | refine AAt.of (SubH.nil) ?_ | (refine ⟨?_, AAt.of (SubH.nil) ?_⟩; · omega)
      refine AAny.takes (fuel := 0) (by kernel_rfl) (by kernel_rfl) [9, 10] (by kernel_rfl) (by kernel_rfl) ?_
      simp -dsimp -implicitDefEqProofs (disch := omega) [go_sem, -List.getD_eq_getElem?_getD, ite_yes, ht]
      refine AAny.done (by kernel_rfl) ?_
      simp -dsimp -implicitDefEqProofs (disch := omega) [go_sem, -List.getD_eq_getElem?_getD, ite_yes, ht]
      exact pmake_end 2 3 rfl rfl (by omega) l1 b1 hd
    · simp -dsimp -implicitDefEqProofs (disch := omega) [go_sem, -List.getD_eq_getElem?_getD, ite_yes, ht]
      first | refine AAt.of (SubH.nil) ?_ | (refine ⟨?_, AAt.of (SubH.nil) ?_⟩; · omega)
      refine AAny.two 5 1 6 (by kernel_rfl) (by kernel_rfl) (by kernel_rfl) ?_ ?_
      · simp -dsimp -implicitDefEqProofs (disch := omega) [go_sem, -List.getD_eq_getElem?_getD, ite_yes, ht]
        first | refine AAt.of (SubH.nil) ?_ | (refine ⟨?_, AAt.of (SubH.nil) ?_⟩; · omega)
        refine AAny.one 4 6 (by kernel_rfl) (by kernel_rfl) (by kernel_rfl) ?_
        simp -dsimp -implicitDefEqProofs (disch := omega) [go_sem, -List.getD_eq_getElem?_getD, ite_yes, ht]
        refine ACall.via (among_R (h.curJ 1 rfl (by omega)) (by omega) [0, 300, 500, 3650, 3651, -1] (by simp) (by simp) _ _ (by omega) (Sl.nth 5 rfl rfl)) ?_
        rintro _ _ ⟨y, rfl, ym, a8, s8, q8, q8', rfl⟩
        simp -dsimp -implicitDefEqProofs (disch := omega) [go_sem, -List.getD_eq_getElem?_getD, ite_yes, ht]
        first | refine AAt.of (SubH.nil) ?_ | (refine ⟨?_, AAt.of (SubH.nil) ?_⟩; · omega)
        refine AAny.takes (fuel := 3) (by kernel_rfl) (by kernel_rfl) [7] (by kernel_rfl) (by kernel_rfl) ?_
        simp -dsimp -implicitDefEqProofs (disch := omega) [go_sem, -List.getD_eq_getElem?_getD, ite_yes, ht]
        refine AAny.one 2 8 (by kernel_rfl) (by kernel_rfl) (by kernel_rfl) ?_
        simp -dsimp -implicitDefEqProofs (disch := omega) [go_sem, -List.getD_eq_getElem?_getD, ite_yes, ht]
        first | refine AAt.of (SubH.nil) ?_ | (refine ⟨?_, AAt.of (SubH.nil) ?_⟩; · omega)
        refine AAny.takes (fuel := 0) (by kernel_rfl) (by kernel_rfl) [9, 10] (by kernel_rfl) (by kernel_rfl) ?_
        simp -dsimp -implicitDefEqProofs (disch := omega) [go_sem, -List.getD_eq_getElem?_getD, ite_yes, ht]
        refine AAny.done (by kernel_rfl) ?_
        simp -dsimp -implicitDefEqProofs (disch := omega) [go_sem, -List.getD_eq_getElem?_getD, ite_yes, ht]
        exact pmake_end 2 3 rfl rfl (by omega) l1 b1 hd
      · simp -dsimp -implicitDefEqProofs (disch := omega) [go_sem, -List.getD_eq_getElem?_getD, ite_yes, ht]
        refine ACall.via (among_R (h.curJ 1 rfl (by omega)) (by omega) [0, 300, 500, 3650, 3651, -1] (by simp) (by simp) _ _ (by omega) (Sl.nth 5 rfl rfl)) ?_
        rintro _ _ ⟨y, rfl, ym, a8, s8, q8, q8', rfl⟩
        simp -dsimp -implicitDefEqProofs (disch := omega) [go_sem, -List.getD_eq_getElem?_getD, ite_yes, ht]
        first | refine AAt.of (SubH.nil) ?_ | (refine ⟨?_, AAt.of (SubH.nil) ?_⟩; · omega)
        refine AAny.takes (fuel := 4) (by kernel_rfl) (by kernel_rfl) [7] (by kernel_rfl) (by kernel_rfl) ?_
        simp -dsimp -implicitDefEqProofs (disch := omega) [go_sem, -List.getD_eq_getElem?_getD, ite_yes, ht]
        refine AAny.one 3 1 (by kernel_rfl) (by kernel_rfl) (by kernel_rfl) ?_
        simp -dsimp -implicitDefEqProofs (disch := omega) [go_sem, -List.getD_eq_getElem?_getD, ite_yes, ht]
        first | refine AAt.of (SubH.nil) ?_ | (refine ⟨?_, AAt.of (SubH.nil) ?_⟩; · omega)
        refine AAny.one 2 8 (by kernel_rfl) (by kernel_rfl) (by kernel_rfl) ?_
        simp -dsimp -implicitDefEqProofs (disch := omega) [go_sem, -List.getD_eq_getElem?_getD, ite_yes, ht]
        first | refine AAt.of (SubH.nil) ?_ | (refine ⟨?_, AAt.of (SubH.nil) ?_⟩; · omega)
        refine AAny.takes (fuel := 0) (by kernel_rfl) (by kernel_rfl) [9, 10] (by kernel_rfl) (by kernel_rfl) ?_
        simp -dsimp -implicitDefEqProofs (disch := omega) [go_sem, -List.getD_eq_getElem?_getD, ite_yes, ht]
        refine AAny.done (by kernel_rfl) ?_
        simp -dsimp -implicitDefEqProofs (disch := omega) [go_sem, -List.getD_eq_getElem?_getD, ite_yes, ht]
        exact pmake_end 2 3 rfl rfl (by omega) l1 b1 hd
  · simp -dsimp -implicitDefEqProofs (disch := omega) [go_sem, -List.getD_eq_getElem?_getD, ite_yes, ht]
    first | refine AAt.of (SubH.nil) ?_ | (refine ⟨?_, AAt.of (SubH.nil) ?_⟩; · omega)
    refine AAny.two 6 1 3 (by kernel_rfl) (by kernel_rfl) (by kernel_rfl) ?_ ?_
    · simp -dsimp -implicitDefEqProofs (disch := omega) [go_sem, -List.getD_eq_getElem?_getD, ite_yes, ht]
      first | refine AAt.of (SubH.nil) ?_ | (refine ⟨?_, AAt.of (SubH.nil) ?_⟩; · omega)
      refine AAny.one 5 3 (by kernel_rfl) (by kernel_rfl) (by kernel_rfl) ?_
      simp -dsimp -implicitDefEqProofs (disch := omega) [go_sem, -List.getD_eq_getElem?_getD, ite_yes, ht]
      refine ACall.via (volume_R (h.curJ 1 rfl (by omega)) (by omega)) ?_
      rintro _ _ ⟨x, a7, s7, rfl, q7, q7', rfl⟩
      simp -dsimp -implicitDefEqProofs (disch := omega) [go_sem, -List.getD_eq_getElem?_getD, ite_yes, ht]
      first | refine AAt.of (SubH.nil) ?_ | (refine ⟨?_, AAt.of (SubH.nil) ?_⟩; · omega)
      refine AAny.one 4 6 (by kernel_rfl) (by kernel_rfl) (by kernel_rfl) ?_
      simp -dsimp -implicitDefEqProofs (disch := omega) [go_sem, -List.getD_eq_getElem?_getD, ite_yes, ht]
      refine ACall.via (among_R (h.curJ 1 rfl (by omega)) (by omega) [0, 300, 500, 3650, 3651, -1] (by simp) (by simp) _ _ (by omega) (Sl.nth 5 rfl rfl)) ?_
      rintro _ _ ⟨y, rfl, ym, a8, s8, q8, q8', rfl⟩
      simp -dsimp -implicitDefEqProofs (disch := omega) [go_sem, -List.getD_eq_getElem?_getD, ite_yes, ht]
      first | refine AAt.of (SubH.nil) ?_ | (refine ⟨?_, AAt.of (SubH.nil) ?_⟩; · omega)
      refine AAny.takes (fuel := 3) (by kernel_rfl) (by kernel_rfl) [7] (by kernel_rfl) (by kernel_rfl) ?_
      simp -dsimp -implicitDefEqProofs (disch := omega) [go_sem, -List.getD_eq_getElem?_getD, ite_yes, ht]
      refine AAny.one 2 8 (by kernel_rfl) (by kernel_rfl) (by kernel_rfl) ?_
      simp -dsimp -implicitDefEqProofs (disch := omega) [go_sem, -List.getD_eq_getElem?_getD, ite_yes, ht]
      first | refine AAt.of (SubH.nil) ?_ | (refine ⟨?_, AAt.of (SubH.nil) ?_⟩; · omega)
      refine AAny.takes (fuel := 0) (by kernel_rfl) (by kernel_rfl) [9, 10] (by kernel_rfl) (by kernel_rfl) ?_
      simp -dsimp -implicitDefEqProofs (disch := omega) [go_sem, -List.getD_eq_getElem?_getD, ite_yes, ht]
      refine AAny.done (by kernel_rfl) ?_
      simp -dsimp -implicitDefEqProofs (disch := omega) [go_sem, -List.getD_eq_getElem?_getD, ite_yes, ht]
      exact pmake_end 2 3 rfl rfl (by omega) l1 b1 hd
    · simp -dsimp -implicitDefEqProofs (disch := omega) [go_sem, -List.getD_eq_getElem?_getD, ite_yes, ht]
      refine ACall.via (volume_R (h.curJ 1 rfl (by omega)) (by omega)) ?_
      rintro _ _ ⟨x, a7, s7, rfl, q7, q7', rfl⟩
      simp -dsimp -implicitDefEqProofs (disch := omega) [go_sem, -List.getD_eq_getElem?_getD, ite_yes, ht]
      first | refine AAt.of (SubH.nil) ?_ | (refine ⟨?_, AAt.of (SubH.nil) ?_⟩; · omega)
      refine AAny.two 5 1 6 (by kernel_rfl) (by kernel_rfl) (by kernel_rfl) ?_ ?_
      · simp -dsimp -implicitDefEqProofs (disch := omega) [go_sem, -List.getD_eq_getElem?_getD, ite_yes, ht]
        first | refine AAt.of (SubH.nil) ?_ | (refine ⟨?_, AAt.of (SubH.nil) ?_⟩; · omega)
        refine AAny.one 4 6 (by kernel_rfl) (by kernel_rfl) (by kernel_rfl) ?_
        simp -dsimp -implicitDefEqProofs (disch := omega) [go_sem, -List.getD_eq_getElem?_getD, ite_yes, ht]
        refine ACall.via (among_R (h.curJ 1 rfl (by omega)) (by omega) [0, 300, 500, 3650, 3651, -1] (by simp) (by simp) _ _ (by omega) (Sl.nth 5 rfl rfl)) ?_
        rintro _ _ ⟨y, rfl, ym, a8, s8, q8, q8', rfl⟩
        simp -dsimp -implicitDefEqProofs (disch := omega) [go_sem, -List.getD_eq_getElem?_getD, ite_yes, ht]
        first | refine AAt.of (SubH.nil) ?_ | (refine ⟨?_, AAt.of (SubH.nil) ?_⟩; · omega)
        refine AAny.takes (fuel := 3) (by kernel_rfl) (by kernel_rfl) [7] (by kernel_rfl) (by kernel_rfl) ?_
        simp -dsimp -implicitDefEqProofs (disch := omega) [go_sem, -List.getD_eq_getElem?_getD, ite_yes, ht]
        refine AAny.one 2 8 (by kernel_rfl) (by kernel_rfl) (by kernel_rfl) ?_
        simp -dsimp -implicitDefEqProofs (disch := omega) [go_sem, -List.getD_eq_getElem?_getD, ite_yes, ht]
        first | refine AAt.of (SubH.nil) ?_ | (refine ⟨?_, AAt.of (SubH.nil) ?_⟩; · omega)
        refine AAny.takes (fuel := 0) (by kernel_rfl) (by kernel_rfl) [9, 10] (by kernel_rfl) (by kernel_rfl) ?_
        simp -dsimp -implicitDefEqProofs (disch := omega) [go_sem, -List.getD_eq_getElem?_getD, ite_yes, ht]
        refine AAny.done (by kernel_rfl) ?_
        simp -dsimp -implicitDefEqProofs (disch := omega) [go_sem, -List.getD_eq_getElem?_getD, ite_yes, ht]
        exact pmake_end 2 3 rfl rfl (by omega) l1 b1 hd
      · simp -dsimp -implicitDefEqProofs (disch := omega) [go_sem, -List.getD_eq_getElem?_getD, ite_yes, ht]
        refine ACall.via (among_R (h.curJ 1 rfl (by omega)) (by omega) [0, 300, 500, 3650, 3651, -1] (by simp) (by simp) _ _ (by omega) (Sl.nth 5 rfl rfl)) ?_
        rintro _ _ ⟨y, rfl, ym, a8, s8, q8, q8', rfl⟩
        simp -dsimp -implicitDefEqProofs (disch := omega) [go_sem, -List.getD_eq_getElem?_getD, ite_yes, ht]
        first | refine AAt.of (SubH.nil) ?_ | (refine ⟨?_, AAt.of (SubH.nil) ?_⟩; · omega)
        refine AAny.takes (fuel := 4) (by kernel_rfl) (by kernel_rfl) [7] (by kernel_rfl) (by kernel_rfl) ?_
        simp -dsimp -implicitDefEqProofs (disch := omega) [go_sem, -List.getD_eq_getElem?_getD, ite_yes, ht]
        refine AAny.one 3 1 (by kernel_rfl) (by kernel_rfl) (by kernel_rfl) ?_
        simp -dsimp -implicitDefEqProofs (disch := omega) [go_sem, -List.getD_eq_getElem?_getD, ite_yes, ht]
        first | refine AAt.of (SubH.nil) ?_ | (refine ⟨?_, AAt.of (SubH.nil) ?_⟩; · omega)
        refine AAny.one 2 8 (by kernel_rfl) (by kernel_rfl) (by kernel_rfl) ?_
        simp -dsimp -implicitDefEqProofs (disch := omega) [go_sem, -List.getD_eq_getElem?_getD, ite_yes, ht]
        first | refine AAt.of (SubH.nil) ?_ | (refine ⟨?_, AAt.of (SubH.nil) ?_⟩; · omega)
        refine AAny.takes (fuel := 0) (by kernel_rfl) (by kernel_rfl) [9, 10] (by kernel_rfl) (by kernel_rfl) ?_
        simp -dsimp -implicitDefEqProofs (disch := omega) [go_sem, -List.getD_eq_getElem?_getD, ite_yes, ht]
        refine AAny.done (by kernel_rfl) ?_
        simp -dsimp -implicitDefEqProofs (disch := omega) [go_sem, -List.getD_eq_getElem?_getD, ite_yes, ht]
        exact pmake_end 2 3 rfl rfl (by omega) l1 b1 hd
end Go.Proofs.Ytappbdfieccfeaa
