/- What the meters' laws draw. -/
import Derived.Test.YtfpikkhbkmchgaaDrawRds
namespace Go.Proofs.Ytfpikkhbkmchgaa
open Go.Am
set_option linter.unusedVariables false
set_option linter.unusedSimpArgs false
set_option maxRecDepth 100000
set_option maxHeartbeats 1000000

/-- block tc has n bytes -/
structure Bytes (H : Heap) (tc n : Nat) : Prop where
  lt : tc < H.length
  size : n ≤ 9223372036854775807
  bytes : ∀ k, k < n → ∃ b : Int, 0 ≤ b ∧ b ≤ 255 ∧ aCells H ⟨tc, k, none⟩ 1 = some [.int .u8 b]
theorem Bytes.app {H : Heap} {tc n : Nat} (h : Bytes H tc n) (L : Heap) : Bytes (H ++ L) tc n :=
  ⟨by have := h.lt; simp; omega, h.size, fun k hk => by
    obtain ⟨b, h1, h2, h3⟩ := h.bytes k hk
    exact ⟨b, h1, h2, by rw [aCells_old h.lt]; exact h3⟩⟩
theorem Bytes.cur {H : Heap} {tc n : Nat} (h : Bytes H tc n) (cc : Nat) : Cur (H ++ [curB tc n cc 0 0]) H.length tc n cc 0 0 :=
  ⟨by rw [Heap.get_len]; rfl, by have := h.lt; simp; omega, Nat.ne_of_lt h.lt, h.size, (h.app _).bytes, Int.le_refl _⟩
theorem Bytes.curAt {H : Heap} {tc n : Nat} (h : Bytes H tc n) (cc : Nat) {a s : Int} (ha : 0 ≤ a) (L : Heap) : Cur (H ++ curB tc n cc a s :: L) H.length tc n cc a s :=
  ⟨by rw [Heap.get_len]; rfl, by have := h.lt; simp; omega, Nat.ne_of_lt h.lt, h.size, (h.app _).bytes, ha⟩
def PL (H : Heap) (v : Value) (H' : Heap) : Prop := ∃ l : List Rd, v = .slice (some ⟨H.length, 0, none⟩) l.length l.length ∧ l.length ≤ 20 ∧ H' = H ++ [some ⟨l.flatMap rdE, true, 35, 2⟩]
def PLI (H : Heap) (v : Value) (H' : Heap) : Prop := ∃ (l : List Rd) (d : Int), v = .tuple #[.slice (some ⟨H.length, 0, none⟩) l.length l.length, .int .i64 d] ∧ l.length ≤ 20 ∧ H' = H ++ [some ⟨l.flatMap rdE, true, 35, 2⟩]
theorem drawValid_R {H : Heap} {tc n : Nat} (h : Bytes H tc n) (cc : Nat) : AFunR Try.prog 22 [.slice (some ⟨tc, 0, none⟩) n cc] H (PL H) := by
  refine AFunR.of_body Try.func22 (by kernel_rfl) rfl (by kernel_rfl) (by simp [Try.ntmps22]) ?_
  have ht := h.lt
  simp -dsimp -implicitDefEqProofs (disch := omega) [go_sem, -List.getD_eq_getElem?_getD, ite_yes]
  refine ACall.via (meterReadings_R (h.cur cc) (by omega)) ?_
  rintro _ _ ⟨l, a, s, rfl, l1, q1, q1', rfl⟩
  simp -dsimp -implicitDefEqProofs (disch := omega) [go_sem, -List.getD_eq_getElem?_getD, ite_yes]
  refine EndR.of (.slice (some ⟨H.length, 0, none⟩) l.length l.length) _ ⟨l, rfl, l1, rfl⟩ (fin_list [some 1] rfl ?_ (by simp -dsimp -implicitDefEqProofs (disch := omega) [go_sem, -List.getD_eq_getElem?_getD, ite_yes]))
  simp -dsimp -implicitDefEqProofs (disch := omega) [go_sem, -List.getD_eq_getElem?_getD, ite_yes]
  exact .inl ⟨rfl, rdE_flat _⟩
theorem drawUsesOf_R {H : Heap} {tc n : Nat} (h : Bytes H tc n) (cc : Nat) : AFunR Try.prog 5 [.slice (some ⟨tc, 0, none⟩) n cc] H (PL H) := by
  refine AFunR.of_body Try.func5 (by kernel_rfl) rfl (by kernel_rfl) (by simp [Try.ntmps5]) ?_
  have ht := h.lt
  simp -dsimp -implicitDefEqProofs (disch := omega) [go_sem, -List.getD_eq_getElem?_getD, ite_yes]
  refine ACall.via (drawValid_R h cc) ?_
  rintro _ _ ⟨l, rfl, l1, rfl⟩
  simp -dsimp -implicitDefEqProofs (disch := omega) [go_sem, -List.getD_eq_getElem?_getD, ite_yes]
  refine EndR.of (.slice (some ⟨H.length, 0, none⟩) l.length l.length) _ ⟨l, rfl, l1, rfl⟩ (fin_list [some 0] rfl ?_ (by simp -dsimp -implicitDefEqProofs (disch := omega) [go_sem, -List.getD_eq_getElem?_getD, ite_yes]))
  simp -dsimp -implicitDefEqProofs (disch := omega) [go_sem, -List.getD_eq_getElem?_getD, ite_yes]
  exact .inl ⟨rfl, rdE_flat _⟩
theorem drawUseUpTo_R {H : Heap} {tc n : Nat} (h : Bytes H tc n) (cc : Nat) : AFunR Try.prog 18 [.slice (some ⟨tc, 0, none⟩) n cc] H (PLI H) := by
  refine AFunR.of_body Try.func18 (by kernel_rfl) rfl (by kernel_rfl) (by simp [Try.ntmps18]) ?_
  have ht := h.lt
  have hc := h.cur cc
  simp -dsimp -implicitDefEqProofs (disch := omega) [go_sem, -List.getD_eq_getElem?_getD, ite_yes]
  refine ACall.via (meterReadings_R hc (by omega)) ?_
  rintro _ _ ⟨l, a, s, rfl, l1, q1, q1', rfl⟩
  simp -dsimp -implicitDefEqProofs (disch := omega) [go_sem, -List.getD_eq_getElem?_getD, ite_yes]
  refine ACall.via (day19_R (h.curAt cc (by omega) _) (by omega) l l1 _ _ (by omega) (Sl.nth 1 rfl rfl)) ?_
  rintro _ _ ⟨d, a2, s2, rfl, q2, q2', rfl⟩
  simp -dsimp -implicitDefEqProofs (disch := omega) [go_sem, -List.getD_eq_getElem?_getD, ite_yes]
  refine EndR.of (.tuple #[.slice (some ⟨H.length, 0, none⟩) l.length l.length, .int .i64 d]) _ ⟨l, d, rfl, l1, rfl⟩ (fin_list [some 1] rfl ?_ (by simp -dsimp -implicitDefEqProofs (disch := omega) [go_sem, -List.getD_eq_getElem?_getD, ite_yes]))
  simp -dsimp -implicitDefEqProofs (disch := omega) [go_sem, -List.getD_eq_getElem?_getD, ite_yes]
  exact .inl ⟨rfl, rdE_flat _⟩
theorem drawNextCount_R {H : Heap} {tc n : Nat} (h : Bytes H tc n) (cc : Nat) : AFunR Try.prog 20 [.slice (some ⟨tc, 0, none⟩) n cc] H (PLI H) := by
  refine AFunR.of_body Try.func20 (by kernel_rfl) rfl (by kernel_rfl) (by simp [Try.ntmps20]) ?_
  have ht := h.lt
  have hc := h.cur cc
  simp -dsimp -implicitDefEqProofs (disch := omega) [go_sem, -List.getD_eq_getElem?_getD, ite_yes]
  refine ACall.via (meterReadings_R hc (by omega)) ?_
  rintro _ _ ⟨l, a, s, rfl, l1, q1, q1', rfl⟩
  have lf := rdE_length l
  simp -dsimp -implicitDefEqProofs (disch := omega) [go_sem, -List.getD_eq_getElem?_getD, ite_yes]
  by_cases h0 : 0 < l.length
  · have h0' : (0 : Int) < (l.length : Int) := by omega
    have fc := flatMap_cells rdE 2 (fun _ => rfl) (0, 0) l (l.length - 1) (by omega)
    have fd : List.take 1 (List.drop ((l.length - 1) * 2) (l.flatMap rdE)) = [.int .i64 (l.getD (l.length - 1) (0, 0)).1] := by
      have h2 : List.take 1 (List.take 2 (List.drop ((l.length - 1) * 2) (l.flatMap rdE))) = [.int .i64 (l.getD (l.length - 1) (0, 0)).1] := by rw [fc]; rfl
      rw [List.take_take] at h2
      exact h2
    have f1 : (l.length - 1) * 2 + 1 ≤ l.length * 2 := by omega
    simp -dsimp -implicitDefEqProofs (disch := omega) [go_sem, -List.getD_eq_getElem?_getD, ite_yes, h0, h0']
    refine ACall.via (one_R (h.curAt cc (by omega) _) (by omega) 5 (by omega)) ?_
    rintro _ _ ⟨b, rfl, a2, s2, q2, q2', rfl⟩
    cases b
    · simp -dsimp -implicitDefEqProofs (disch := omega) [go_sem, -List.getD_eq_getElem?_getD, ite_yes]
      refine ADraw.any (H ++ [none, some ⟨l.flatMap rdE, true, 35, 2⟩]) (by kernel_rfl) (by first | exact SubH.refl | exact SubH.app | exact SubH.both (by simp [subL])) ?_
      refine AAny.takes (fuel := 5) (by kernel_rfl) (by kernel_rfl) [0, 1, 2, 3, 4, 5, 6, 7] (by kernel_rfl) (by kernel_rfl) ?_
      simp -dsimp -implicitDefEqProofs (disch := omega) [go_sem, -List.getD_eq_getElem?_getD, ite_yes, lf, fd, f1, h0, h0']
      refine AAny.one 4 8 (by kernel_rfl) (by kernel_rfl) (by kernel_rfl) ?_
      simp -dsimp -implicitDefEqProofs (disch := omega) [go_sem, -List.getD_eq_getElem?_getD, ite_yes, lf, fd, f1, h0, h0']
      first | refine AAt.of (by first | exact SubH.refl | exact SubH.app | exact SubH.both (by simp [subL])) ?_ | (refine ⟨?_, AAt.of (by first | exact SubH.refl | exact SubH.app | exact SubH.both (by simp [subL])) ?_⟩; · omega)
      refine AAny.one 3 9 (by kernel_rfl) (by kernel_rfl) (by kernel_rfl) ?_
      simp -dsimp -implicitDefEqProofs (disch := omega) [go_sem, -List.getD_eq_getElem?_getD, ite_yes, lf, fd, f1, h0, h0']
      refine ACall.via (among_R (h.curAt cc (by omega) _) (by omega) [0, 1, 5, 100, -1] (by simp) (by simp) _ _ (by omega) (Sl.nth 2 rfl rfl)) ?_
      rintro _ _ ⟨x, rfl, xm, a3, s3, q3, q3', rfl⟩
      simp -dsimp -implicitDefEqProofs (disch := omega) [go_sem, -List.getD_eq_getElem?_getD, ite_yes, lf, fd, f1, h0, h0']
      first | refine AAt.of (by first | exact SubH.refl | exact SubH.app | exact SubH.both (by simp [subL])) ?_ | (refine ⟨?_, AAt.of (by first | exact SubH.refl | exact SubH.app | exact SubH.both (by simp [subL])) ?_⟩; · omega)
      refine AAny.takes (fuel := 0) (by kernel_rfl) (by kernel_rfl) [10, 11, 12] (by kernel_rfl) (by kernel_rfl) ?_
      simp -dsimp -implicitDefEqProofs (disch := omega) [go_sem, -List.getD_eq_getElem?_getD, ite_yes, lf, fd, f1, h0, h0']
      refine AAny.done (by kernel_rfl) ?_
      simp -dsimp -implicitDefEqProofs (disch := omega) [go_sem, -List.getD_eq_getElem?_getD, ite_yes, lf, fd, f1, h0, h0']
      refine EndR.of (.tuple #[.slice (some ⟨H.length, 0, none⟩) l.length l.length, .int .i64 (IntKind.i64.wrap ((l.getD (l.length - 1) (0, 0)).1 + x))]) _ ⟨l, _, rfl, l1, rfl⟩ (fin_list [some 1] rfl ?_ (by simp -dsimp -implicitDefEqProofs (disch := omega) [go_sem, -List.getD_eq_getElem?_getD, ite_yes]))
      simp -dsimp -implicitDefEqProofs (disch := omega) [go_sem, -List.getD_eq_getElem?_getD, ite_yes]
      exact .inl ⟨rfl, rdE_flat _⟩
    · simp -dsimp -implicitDefEqProofs (disch := omega) [go_sem, -List.getD_eq_getElem?_getD, ite_yes]
      refine ACall.via (day19_R (h.curAt cc (by omega) _) (by omega) l l1 _ _ (by omega) (Sl.nth 1 rfl rfl)) ?_
      rintro _ _ ⟨d, a3, s3, rfl, q3, q3', rfl⟩
      simp -dsimp -implicitDefEqProofs (disch := omega) [go_sem, -List.getD_eq_getElem?_getD, ite_yes]
      refine EndR.of (.tuple #[.slice (some ⟨H.length, 0, none⟩) l.length l.length, .int .i64 d]) _ ⟨l, d, rfl, l1, rfl⟩ (fin_list [some 1] rfl ?_ (by simp -dsimp -implicitDefEqProofs (disch := omega) [go_sem, -List.getD_eq_getElem?_getD, ite_yes]))
      simp -dsimp -implicitDefEqProofs (disch := omega) [go_sem, -List.getD_eq_getElem?_getD, ite_yes]
      exact .inl ⟨rfl, rdE_flat _⟩
  · have h0' : ¬ (0 : Int) < (l.length : Int) := by omega
    simp -dsimp -implicitDefEqProofs (disch := omega) [go_sem, -List.getD_eq_getElem?_getD, ite_yes, h0, h0']
    refine ACall.via (day19_R (h.curAt cc (by omega) _) (by omega) l l1 _ _ (by omega) (Sl.nth 1 rfl rfl)) ?_
    rintro _ _ ⟨d, a3, s3, rfl, q3, q3', rfl⟩
    simp -dsimp -implicitDefEqProofs (disch := omega) [go_sem, -List.getD_eq_getElem?_getD, ite_yes]
    refine EndR.of (.tuple #[.slice (some ⟨H.length, 0, none⟩) l.length l.length, .int .i64 d]) _ ⟨l, d, rfl, l1, rfl⟩ (fin_list [some 1] rfl ?_ (by simp -dsimp -implicitDefEqProofs (disch := omega) [go_sem, -List.getD_eq_getElem?_getD, ite_yes]))
    simp -dsimp -implicitDefEqProofs (disch := omega) [go_sem, -List.getD_eq_getElem?_getD, ite_yes]
    exact .inl ⟨rfl, rdE_flat _⟩
theorem Bytes.curJ {H L : Heap} {tc n cc : Nat} (h : Bytes H tc n) (j : Nat) {a s : Int} (hg : Heap.get L j = curB tc n cc a s) (ha : 0 ≤ a) : Cur (H ++ L) (H.length + j) tc n cc a s :=
  ⟨by rw [Heap.get_len_add]; exact hg, by have := h.lt; simp; omega, by have := h.lt; omega, h.size, (h.app _).bytes, ha⟩
def PAR (H : Heap) (v : Value) (H' : Heap) : Prop := ∃ (l : List Rd) (r : Rd) (m : Int), v = .tuple #[.slice (some ⟨H.length, 0, none⟩) l.length l.length, .agg #[.int .i64 r.1, .int .i64 r.2], .int .i64 m] ∧ l.length ≤ 20 ∧ H' = H ++ [some ⟨l.flatMap rdE, true, 35, 2⟩]
set_option maxHeartbeats 4000000 in
theorem drawAddReading_R {H : Heap} {tc n : Nat} (h : Bytes H tc n) (cc : Nat) : AFunR Try.prog 14 [.slice (some ⟨tc, 0, none⟩) n cc] H (PAR H) := by
  refine AFunR.of_body Try.func14 (by kernel_rfl) rfl (by kernel_rfl) (by simp [Try.ntmps14]) ?_
  have ht := h.lt
  simp -dsimp -implicitDefEqProofs (disch := omega) [go_sem, -List.getD_eq_getElem?_getD, ite_yes]
  refine ACall.via (meterReadings_R (h.curJ 1 rfl (by omega)) (by omega)) ?_
  rintro _ _ ⟨l, a, s, rfl, l1, q1, q1', rfl⟩
  have lf := rdE_length l
  simp -dsimp -implicitDefEqProofs (disch := omega) [go_sem, -List.getD_eq_getElem?_getD, ite_yes]
  refine ACall.via (day19_R (h.curJ 1 rfl (by omega)) (by omega) l l1 _ _ (by omega) (Sl.nth 2 rfl rfl)) ?_
  rintro _ _ ⟨d, a2, s2, rfl, q2, q2', rfl⟩
  simp -dsimp -implicitDefEqProofs (disch := omega) [go_sem, -List.getD_eq_getElem?_getD, ite_yes]
  refine ACall.via (among_R (h.curJ 1 rfl (by omega)) (by omega) [0, 5, 120, 99999, 100000] (by simp) (by simp) _ _ (by omega) (Sl.nth 3 rfl rfl)) ?_
  rintro _ _ ⟨x, rfl, xm, a3, s3, q3, q3', rfl⟩
  simp -dsimp -implicitDefEqProofs (disch := omega) [go_sem, -List.getD_eq_getElem?_getD, ite_yes]
  by_cases h0 : 0 < l.length
  · have h0' : (0 : Int) < (l.length : Int) := by omega
    have fc := flatMap_cells rdE 2 (fun _ => rfl) (0, 0) l (l.length - 1) (by omega)
    have fd : List.take 1 (List.drop ((l.length - 1) * 2) (l.flatMap rdE)) = [.int .i64 (l.getD (l.length - 1) (0, 0)).1] := by
      have h2 : List.take 1 (List.take 2 (List.drop ((l.length - 1) * 2) (l.flatMap rdE))) = [.int .i64 (l.getD (l.length - 1) (0, 0)).1] := by rw [fc]; rfl
      rw [List.take_take] at h2
      exact h2
    have fe : List.take 1 (List.drop ((l.length - 1) * 2 + 1) (l.flatMap rdE)) = [.int .i64 (l.getD (l.length - 1) (0, 0)).2] := by
      have h2 : List.take 1 (List.drop 1 (List.take 2 (List.drop ((l.length - 1) * 2) (l.flatMap rdE)))) = [.int .i64 (l.getD (l.length - 1) (0, 0)).2] := by rw [fc]; rfl
      rw [List.drop_take, List.drop_drop, List.take_take] at h2
      exact h2
    have f1 : (l.length - 1) * 2 + 1 ≤ l.length * 2 := by omega
    have f2 : (l.length - 1) * 2 + 1 + 1 ≤ l.length * 2 := by omega
    simp -dsimp -implicitDefEqProofs (disch := omega) [go_sem, -List.getD_eq_getElem?_getD, ite_yes, h0, h0']
    refine ACall.via (one_R (h.curJ 1 rfl (by omega)) (by omega) 2 (by omega)) ?_
    rintro _ _ ⟨b, rfl, a4, s4, q4, q4', rfl⟩
    cases b
    · simp -dsimp -implicitDefEqProofs (disch := omega) [go_sem, -List.getD_eq_getElem?_getD, ite_yes]
      refine ADraw.any (H ++ [none, none, none, none, some ⟨[.int .i64 d, .int .i64 x], true, 35, 1⟩]) (by kernel_rfl) (by first | exact SubH.refl | exact SubH.app | exact SubH.both (by simp [subL])) ?_
      refine AAny.takes (fuel := 9) (by kernel_rfl) (by kernel_rfl) [0, 1, 2, 4] (by kernel_rfl) (by kernel_rfl) ?_
      simp -dsimp -implicitDefEqProofs (disch := omega) [go_sem, -List.getD_eq_getElem?_getD, ite_yes, lf]
      refine AAny.two 8 3 5 (by kernel_rfl) (by kernel_rfl) (by kernel_rfl) ?_ ?_
      · simp -dsimp -implicitDefEqProofs (disch := omega) [go_sem, -List.getD_eq_getElem?_getD, ite_yes, lf]
        first | refine AAt.of (by first | exact SubH.refl | exact SubH.app | exact SubH.both (by simp [subL])) ?_ | (refine ⟨?_, AAt.of (by first | exact SubH.refl | exact SubH.app | exact SubH.both (by simp [subL])) ?_⟩; · omega)
        refine AAny.one 7 5 (by kernel_rfl) (by kernel_rfl) (by kernel_rfl) ?_
        simp -dsimp -implicitDefEqProofs (disch := omega) [go_sem, -List.getD_eq_getElem?_getD, ite_yes, lf]
        refine ACall.via (pick_R (h.curJ 1 rfl (by omega)) (by omega) 24 (by omega)) ?_
        rintro _ _ ⟨r5, rfl, r50, r51, a5, s5, q5, q5', rfl⟩
        obtain ⟨k5, rfl⟩ : ∃ k : Nat, r5 = (k : Int) := ⟨r5.toNat, by omega⟩
        obtain ⟨m5, hm5, hm6, hm7⟩ : ∃ m5 : Nat, 4 + (k5 : Int) / 11 = m5 ∧ 4 ≤ m5 ∧ m5 ≤ 6 := ⟨4 + k5 / 11, by omega, by omega, by omega⟩
        simp -dsimp -implicitDefEqProofs (disch := omega) [go_sem, -List.getD_eq_getElem?_getD, ite_yes, lf, hm5]
        first | refine AAt.of (by first | exact SubH.refl | exact SubH.app | exact SubH.both (by simp [subL])) ?_ | (refine ⟨?_, AAt.of (by first | exact SubH.refl | exact SubH.app | exact SubH.both (by simp [subL])) ?_⟩; · omega)
        refine AAny.takes (fuel := 5) (by kernel_rfl) (by kernel_rfl) [6, 7] (by kernel_rfl) (by kernel_rfl) ?_
        simp -dsimp -implicitDefEqProofs (disch := omega) [go_sem, -List.getD_eq_getElem?_getD, ite_yes, lf, hm5]
        refine AAny.one 4 8 (by kernel_rfl) (by kernel_rfl) (by kernel_rfl) ?_
        simp -dsimp -implicitDefEqProofs (disch := omega) [go_sem, -List.getD_eq_getElem?_getD, ite_yes, lf, hm5]
        first | refine AAt.of (by first | exact SubH.refl | exact SubH.app | exact SubH.both (by simp [subL])) ?_ | (refine ⟨?_, AAt.of (by first | exact SubH.refl | exact SubH.app | exact SubH.both (by simp [subL])) ?_⟩; · omega)
        refine AAny.one 3 9 (by kernel_rfl) (by kernel_rfl) (by kernel_rfl) ?_
        simp -dsimp -implicitDefEqProofs (disch := omega) [go_sem, -List.getD_eq_getElem?_getD, ite_yes, lf, hm5]
        obtain ⟨w5, hw5⟩ : ∃ w5, w5 = ([0, 5, 100, 99999, -1, 100000] : List Int).take m5 := ⟨_, rfl⟩
        have hl5 : w5.length = m5 := by rw [hw5, List.length_take]; simp; omega
        rw [← hl5]
        refine ACall.via (among_R (h.curJ 1 rfl (by omega)) (by omega) w5 (by omega) (by omega) _ _ (by omega) (hw5 ▸ (Sl.nth (l := [0, 5, 100, 99999, -1, 100000]) 5 rfl rfl).take m5)) ?_
        rintro _ _ ⟨z, rfl, zm, a6, s6, q6, q6', rfl⟩
        simp -dsimp -implicitDefEqProofs (disch := omega) [go_sem, -List.getD_eq_getElem?_getD, ite_yes, lf, hm5]
        first | refine AAt.of (by first | exact SubH.refl | exact SubH.app | exact SubH.both (by simp [subL])) ?_ | (refine ⟨?_, AAt.of (by first | exact SubH.refl | exact SubH.app | exact SubH.both (by simp [subL])) ?_⟩; · omega)
        refine AAny.takes (fuel := 2) (by kernel_rfl) (by kernel_rfl) [10] (by kernel_rfl) (by kernel_rfl) ?_
        simp -dsimp -implicitDefEqProofs (disch := omega) [go_sem, -List.getD_eq_getElem?_getD, ite_yes, lf, hm5]
        refine AAny.one 1 11 (by kernel_rfl) (by kernel_rfl) (by kernel_rfl) ?_
        simp -dsimp -implicitDefEqProofs (disch := omega) [go_sem, -List.getD_eq_getElem?_getD, ite_yes, lf, hm5]
        first | refine AAt.of (by first | exact SubH.refl | exact SubH.app | exact SubH.both (by simp [subL])) ?_ | (refine ⟨?_, AAt.of (by first | exact SubH.refl | exact SubH.app | exact SubH.both (by simp [subL])) ?_⟩; · omega)
        refine AAny.takes (fuel := 0) (by kernel_rfl) (by kernel_rfl) [12] (by kernel_rfl) (by kernel_rfl) ?_
        simp -dsimp -implicitDefEqProofs (disch := omega) [go_sem, -List.getD_eq_getElem?_getD, ite_yes, lf, hm5]
        refine AAny.done (by kernel_rfl) ?_
        simp -dsimp -implicitDefEqProofs (disch := omega) [go_sem, -List.getD_eq_getElem?_getD, ite_yes, lf, hm5]
        refine EndR.of (.tuple #[.slice (some ⟨H.length, 0, none⟩) l.length l.length, .agg #[.int .i64 d, .int .i64 x], .int .i64 z]) _ ⟨l, (d, x), z, rfl, l1, rfl⟩ (fin_list [some 2] rfl ?_ (by simp -dsimp -implicitDefEqProofs (disch := omega) [go_sem, -List.getD_eq_getElem?_getD, ite_yes]))
        simp -dsimp -implicitDefEqProofs (disch := omega) [go_sem, -List.getD_eq_getElem?_getD, ite_yes]
        exact .inl ⟨rfl, rdE_flat _⟩
      · simp -dsimp -implicitDefEqProofs (disch := omega) [go_sem, -List.getD_eq_getElem?_getD, ite_yes, lf]
        refine ACall.via (pick_R (h.curJ 1 rfl (by omega)) (by omega) 24 (by omega)) ?_
        rintro _ _ ⟨r5, rfl, r50, r51, a5, s5, q5, q5', rfl⟩
        obtain ⟨k5, rfl⟩ : ∃ k : Nat, r5 = (k : Int) := ⟨r5.toNat, by omega⟩
        obtain ⟨m5, hm5, hm6, hm7⟩ : ∃ m5 : Nat, 4 + (k5 : Int) / 11 = m5 ∧ 4 ≤ m5 ∧ m5 ≤ 6 := ⟨4 + k5 / 11, by omega, by omega, by omega⟩
        simp -dsimp -implicitDefEqProofs (disch := omega) [go_sem, -List.getD_eq_getElem?_getD, ite_yes, lf, hm5]
        first | refine AAt.of (by first | exact SubH.refl | exact SubH.app | exact SubH.both (by simp [subL])) ?_ | (refine ⟨?_, AAt.of (by first | exact SubH.refl | exact SubH.app | exact SubH.both (by simp [subL])) ?_⟩; · omega)
        refine AAny.takes (fuel := 6) (by kernel_rfl) (by kernel_rfl) [6, 7] (by kernel_rfl) (by kernel_rfl) ?_
        simp -dsimp -implicitDefEqProofs (disch := omega) [go_sem, -List.getD_eq_getElem?_getD, ite_yes, lf, hm5]
        refine AAny.one 5 3 (by kernel_rfl) (by kernel_rfl) (by kernel_rfl) ?_
        simp -dsimp -implicitDefEqProofs (disch := omega) [go_sem, -List.getD_eq_getElem?_getD, ite_yes, lf, hm5]
        first | refine AAt.of (by first | exact SubH.refl | exact SubH.app | exact SubH.both (by simp [subL])) ?_ | (refine ⟨?_, AAt.of (by first | exact SubH.refl | exact SubH.app | exact SubH.both (by simp [subL])) ?_⟩; · omega)
        refine AAny.one 4 8 (by kernel_rfl) (by kernel_rfl) (by kernel_rfl) ?_
        simp -dsimp -implicitDefEqProofs (disch := omega) [go_sem, -List.getD_eq_getElem?_getD, ite_yes, lf, hm5]
        first | refine AAt.of (by first | exact SubH.refl | exact SubH.app | exact SubH.both (by simp [subL])) ?_ | (refine ⟨?_, AAt.of (by first | exact SubH.refl | exact SubH.app | exact SubH.both (by simp [subL])) ?_⟩; · omega)
        refine AAny.one 3 9 (by kernel_rfl) (by kernel_rfl) (by kernel_rfl) ?_
        simp -dsimp -implicitDefEqProofs (disch := omega) [go_sem, -List.getD_eq_getElem?_getD, ite_yes, lf, hm5]
        obtain ⟨w5, hw5⟩ : ∃ w5, w5 = ([0, 5, 100, 99999, -1, 100000] : List Int).take m5 := ⟨_, rfl⟩
        have hl5 : w5.length = m5 := by rw [hw5, List.length_take]; simp; omega
        rw [← hl5]
        refine ACall.via (among_R (h.curJ 1 rfl (by omega)) (by omega) w5 (by omega) (by omega) _ _ (by omega) (hw5 ▸ (Sl.nth (l := [0, 5, 100, 99999, -1, 100000]) 5 rfl rfl).take m5)) ?_
        rintro _ _ ⟨z, rfl, zm, a6, s6, q6, q6', rfl⟩
        simp -dsimp -implicitDefEqProofs (disch := omega) [go_sem, -List.getD_eq_getElem?_getD, ite_yes, lf, hm5]
        first | refine AAt.of (by first | exact SubH.refl | exact SubH.app | exact SubH.both (by simp [subL])) ?_ | (refine ⟨?_, AAt.of (by first | exact SubH.refl | exact SubH.app | exact SubH.both (by simp [subL])) ?_⟩; · omega)
        refine AAny.takes (fuel := 2) (by kernel_rfl) (by kernel_rfl) [10] (by kernel_rfl) (by kernel_rfl) ?_
        simp -dsimp -implicitDefEqProofs (disch := omega) [go_sem, -List.getD_eq_getElem?_getD, ite_yes, lf, hm5]
        refine AAny.one 1 11 (by kernel_rfl) (by kernel_rfl) (by kernel_rfl) ?_
        simp -dsimp -implicitDefEqProofs (disch := omega) [go_sem, -List.getD_eq_getElem?_getD, ite_yes, lf, hm5]
        first | refine AAt.of (by first | exact SubH.refl | exact SubH.app | exact SubH.both (by simp [subL])) ?_ | (refine ⟨?_, AAt.of (by first | exact SubH.refl | exact SubH.app | exact SubH.both (by simp [subL])) ?_⟩; · omega)
        refine AAny.takes (fuel := 0) (by kernel_rfl) (by kernel_rfl) [12] (by kernel_rfl) (by kernel_rfl) ?_
        simp -dsimp -implicitDefEqProofs (disch := omega) [go_sem, -List.getD_eq_getElem?_getD, ite_yes, lf, hm5]
        refine AAny.done (by kernel_rfl) ?_
        simp -dsimp -implicitDefEqProofs (disch := omega) [go_sem, -List.getD_eq_getElem?_getD, ite_yes, lf, hm5]
        refine EndR.of (.tuple #[.slice (some ⟨H.length, 0, none⟩) l.length l.length, .agg #[.int .i64 d, .int .i64 x], .int .i64 z]) _ ⟨l, (d, x), z, rfl, l1, rfl⟩ (fin_list [some 2] rfl ?_ (by simp -dsimp -implicitDefEqProofs (disch := omega) [go_sem, -List.getD_eq_getElem?_getD, ite_yes]))
        simp -dsimp -implicitDefEqProofs (disch := omega) [go_sem, -List.getD_eq_getElem?_getD, ite_yes]
        exact .inl ⟨rfl, rdE_flat _⟩
    · simp -dsimp -implicitDefEqProofs (disch := omega) [go_sem, -List.getD_eq_getElem?_getD, ite_yes]
      refine ADraw.any (H ++ [none, none, some ⟨l.flatMap rdE, true, 35, 2⟩]) (by kernel_rfl) (by first | exact SubH.refl | exact SubH.app | exact SubH.both (by simp [subL])) ?_
      refine AAny.takes (fuel := 6) (by kernel_rfl) (by kernel_rfl) [0, 1, 2, 3, 4, 5, 6, 7, 8, 9, 10, 11, 12, 13] (by kernel_rfl) (by kernel_rfl) ?_
      simp -dsimp -implicitDefEqProofs (disch := omega) [go_sem, -List.getD_eq_getElem?_getD, ite_yes, lf, fd, fe, f1, f2, h0, h0']
      refine AAny.one 5 14 (by kernel_rfl) (by kernel_rfl) (by kernel_rfl) ?_
      simp -dsimp -implicitDefEqProofs (disch := omega) [go_sem, -List.getD_eq_getElem?_getD, ite_yes, lf, fd, fe, f1, f2, h0, h0']
      first | refine AAt.of (by first | exact SubH.refl | exact SubH.app | exact SubH.both (by simp [subL])) ?_ | (refine ⟨?_, AAt.of (by first | exact SubH.refl | exact SubH.app | exact SubH.both (by simp [subL])) ?_⟩; · omega)
      refine AAny.one 4 15 (by kernel_rfl) (by kernel_rfl) (by kernel_rfl) ?_
      simp -dsimp -implicitDefEqProofs (disch := omega) [go_sem, -List.getD_eq_getElem?_getD, ite_yes, lf, fd, fe, f1, f2, h0, h0']
      refine ACall.via (among_R (h.curJ 1 rfl (by omega)) (by omega) [0, 5, 6] (by simp) (by simp) _ _ (by omega) (Sl.nth 5 rfl rfl)) ?_
      rintro _ _ ⟨y, rfl, ym, a7, s7, q7, q7', rfl⟩
      simp -dsimp -implicitDefEqProofs (disch := omega) [go_sem, -List.getD_eq_getElem?_getD, ite_yes, lf, fd, fe, f1, f2, h0, h0']
      first | refine AAt.of (by first | exact SubH.refl | exact SubH.app | exact SubH.both (by simp [subL])) ?_ | (refine ⟨?_, AAt.of (by first | exact SubH.refl | exact SubH.app | exact SubH.both (by simp [subL])) ?_⟩; · omega)
      refine AAny.takes (fuel := 2) (by kernel_rfl) (by kernel_rfl) [16, 17] (by kernel_rfl) (by kernel_rfl) ?_
      simp -dsimp -implicitDefEqProofs (disch := omega) [go_sem, -List.getD_eq_getElem?_getD, ite_yes, lf, fd, fe, f1, f2, h0, h0']
      refine AAny.one 1 18 (by kernel_rfl) (by kernel_rfl) (by kernel_rfl) ?_
      simp -dsimp -implicitDefEqProofs (disch := omega) [go_sem, -List.getD_eq_getElem?_getD, ite_yes, lf, fd, fe, f1, f2, h0, h0']
      first | refine AAt.of (by first | exact SubH.refl | exact SubH.app | exact SubH.both (by simp [subL])) ?_ | (refine ⟨?_, AAt.of (by first | exact SubH.refl | exact SubH.app | exact SubH.both (by simp [subL])) ?_⟩; · omega)
      refine AAny.one 0 19 (by kernel_rfl) (by kernel_rfl) (by kernel_rfl) ?_
      simp -dsimp -implicitDefEqProofs (disch := omega) [go_sem, -List.getD_eq_getElem?_getD, ite_yes, lf, fd, fe, f1, f2, h0, h0']
      first | refine AAt.of (by first | exact SubH.refl | exact SubH.app | exact SubH.both (by simp [subL])) ?_ | (refine ⟨?_, AAt.of (by first | exact SubH.refl | exact SubH.app | exact SubH.both (by simp [subL])) ?_⟩; · omega)
      refine AAny.done (by kernel_rfl) ?_
      simp -dsimp -implicitDefEqProofs (disch := omega) [go_sem, -List.getD_eq_getElem?_getD, ite_yes, lf, fd, fe, f1, f2, h0, h0']
      refine ADraw.any (H ++ [none, none, none, none, some ⟨[.int .i64 (IntKind.i64.wrap ((l.getD (l.length - 1) (0, 0)).1 + 1)), .int .i64 ((IntKind.i64.wrap ((l.getD (l.length - 1) (0, 0)).2 + y)).tmod 100000)], true, 35, 1⟩]) (by kernel_rfl) (by first | exact SubH.refl | exact SubH.app | exact SubH.both (by simp [subL])) ?_
      refine AAny.takes (fuel := 9) (by kernel_rfl) (by kernel_rfl) [0, 1, 2, 4] (by kernel_rfl) (by kernel_rfl) ?_
      simp -dsimp -implicitDefEqProofs (disch := omega) [go_sem, -List.getD_eq_getElem?_getD, ite_yes, lf]
      refine AAny.two 8 3 5 (by kernel_rfl) (by kernel_rfl) (by kernel_rfl) ?_ ?_
      · simp -dsimp -implicitDefEqProofs (disch := omega) [go_sem, -List.getD_eq_getElem?_getD, ite_yes, lf]
        first | refine AAt.of (by first | exact SubH.refl | exact SubH.app | exact SubH.both (by simp [subL])) ?_ | (refine ⟨?_, AAt.of (by first | exact SubH.refl | exact SubH.app | exact SubH.both (by simp [subL])) ?_⟩; · omega)
        refine AAny.one 7 5 (by kernel_rfl) (by kernel_rfl) (by kernel_rfl) ?_
        simp -dsimp -implicitDefEqProofs (disch := omega) [go_sem, -List.getD_eq_getElem?_getD, ite_yes, lf]
        refine ACall.via (pick_R (h.curJ 1 rfl (by omega)) (by omega) 24 (by omega)) ?_
        rintro _ _ ⟨r5, rfl, r50, r51, a5, s5, q5, q5', rfl⟩
        obtain ⟨k5, rfl⟩ : ∃ k : Nat, r5 = (k : Int) := ⟨r5.toNat, by omega⟩
        obtain ⟨m5, hm5, hm6, hm7⟩ : ∃ m5 : Nat, 4 + (k5 : Int) / 11 = m5 ∧ 4 ≤ m5 ∧ m5 ≤ 6 := ⟨4 + k5 / 11, by omega, by omega, by omega⟩
        simp -dsimp -implicitDefEqProofs (disch := omega) [go_sem, -List.getD_eq_getElem?_getD, ite_yes, lf, hm5]
        first | refine AAt.of (by first | exact SubH.refl | exact SubH.app | exact SubH.both (by simp [subL])) ?_ | (refine ⟨?_, AAt.of (by first | exact SubH.refl | exact SubH.app | exact SubH.both (by simp [subL])) ?_⟩; · omega)
        refine AAny.takes (fuel := 5) (by kernel_rfl) (by kernel_rfl) [6, 7] (by kernel_rfl) (by kernel_rfl) ?_
        simp -dsimp -implicitDefEqProofs (disch := omega) [go_sem, -List.getD_eq_getElem?_getD, ite_yes, lf, hm5]
        refine AAny.one 4 8 (by kernel_rfl) (by kernel_rfl) (by kernel_rfl) ?_
        simp -dsimp -implicitDefEqProofs (disch := omega) [go_sem, -List.getD_eq_getElem?_getD, ite_yes, lf, hm5]
        first | refine AAt.of (by first | exact SubH.refl | exact SubH.app | exact SubH.both (by simp [subL])) ?_ | (refine ⟨?_, AAt.of (by first | exact SubH.refl | exact SubH.app | exact SubH.both (by simp [subL])) ?_⟩; · omega)
        refine AAny.one 3 9 (by kernel_rfl) (by kernel_rfl) (by kernel_rfl) ?_
        simp -dsimp -implicitDefEqProofs (disch := omega) [go_sem, -List.getD_eq_getElem?_getD, ite_yes, lf, hm5]
        obtain ⟨w5, hw5⟩ : ∃ w5, w5 = ([0, 5, 100, 99999, -1, 100000] : List Int).take m5 := ⟨_, rfl⟩
        have hl5 : w5.length = m5 := by rw [hw5, List.length_take]; simp; omega
        rw [← hl5]
        refine ACall.via (among_R (h.curJ 1 rfl (by omega)) (by omega) w5 (by omega) (by omega) _ _ (by omega) (hw5 ▸ (Sl.nth (l := [0, 5, 100, 99999, -1, 100000]) 6 rfl rfl).take m5)) ?_
        rintro _ _ ⟨z, rfl, zm, a6, s6, q6, q6', rfl⟩
        simp -dsimp -implicitDefEqProofs (disch := omega) [go_sem, -List.getD_eq_getElem?_getD, ite_yes, lf, hm5]
        first | refine AAt.of (by first | exact SubH.refl | exact SubH.app | exact SubH.both (by simp [subL])) ?_ | (refine ⟨?_, AAt.of (by first | exact SubH.refl | exact SubH.app | exact SubH.both (by simp [subL])) ?_⟩; · omega)
        refine AAny.takes (fuel := 2) (by kernel_rfl) (by kernel_rfl) [10] (by kernel_rfl) (by kernel_rfl) ?_
        simp -dsimp -implicitDefEqProofs (disch := omega) [go_sem, -List.getD_eq_getElem?_getD, ite_yes, lf, hm5]
        refine AAny.one 1 11 (by kernel_rfl) (by kernel_rfl) (by kernel_rfl) ?_
        simp -dsimp -implicitDefEqProofs (disch := omega) [go_sem, -List.getD_eq_getElem?_getD, ite_yes, lf, hm5]
        first | refine AAt.of (by first | exact SubH.refl | exact SubH.app | exact SubH.both (by simp [subL])) ?_ | (refine ⟨?_, AAt.of (by first | exact SubH.refl | exact SubH.app | exact SubH.both (by simp [subL])) ?_⟩; · omega)
        refine AAny.takes (fuel := 0) (by kernel_rfl) (by kernel_rfl) [12] (by kernel_rfl) (by kernel_rfl) ?_
        simp -dsimp -implicitDefEqProofs (disch := omega) [go_sem, -List.getD_eq_getElem?_getD, ite_yes, lf, hm5]
        refine AAny.done (by kernel_rfl) ?_
        simp -dsimp -implicitDefEqProofs (disch := omega) [go_sem, -List.getD_eq_getElem?_getD, ite_yes, lf, hm5]
        refine EndR.of (.tuple #[.slice (some ⟨H.length, 0, none⟩) l.length l.length, .agg #[.int .i64 (IntKind.i64.wrap ((l.getD (l.length - 1) (0, 0)).1 + 1)), .int .i64 ((IntKind.i64.wrap ((l.getD (l.length - 1) (0, 0)).2 + y)).tmod 100000)], .int .i64 z]) _ ⟨l, ((IntKind.i64.wrap ((l.getD (l.length - 1) (0, 0)).1 + 1)), ((IntKind.i64.wrap ((l.getD (l.length - 1) (0, 0)).2 + y)).tmod 100000)), z, rfl, l1, rfl⟩ (fin_list [some 2] rfl ?_ (by simp -dsimp -implicitDefEqProofs (disch := omega) [go_sem, -List.getD_eq_getElem?_getD, ite_yes]))
        simp -dsimp -implicitDefEqProofs (disch := omega) [go_sem, -List.getD_eq_getElem?_getD, ite_yes]
        exact .inl ⟨rfl, rdE_flat _⟩
      · simp -dsimp -implicitDefEqProofs (disch := omega) [go_sem, -List.getD_eq_getElem?_getD, ite_yes, lf]
        refine ACall.via (pick_R (h.curJ 1 rfl (by omega)) (by omega) 24 (by omega)) ?_
        rintro _ _ ⟨r5, rfl, r50, r51, a5, s5, q5, q5', rfl⟩
        obtain ⟨k5, rfl⟩ : ∃ k : Nat, r5 = (k : Int) := ⟨r5.toNat, by omega⟩
        obtain ⟨m5, hm5, hm6, hm7⟩ : ∃ m5 : Nat, 4 + (k5 : Int) / 11 = m5 ∧ 4 ≤ m5 ∧ m5 ≤ 6 := ⟨4 + k5 / 11, by omega, by omega, by omega⟩
        simp -dsimp -implicitDefEqProofs (disch := omega) [go_sem, -List.getD_eq_getElem?_getD, ite_yes, lf, hm5]
        first | refine AAt.of (by first | exact SubH.refl | exact SubH.app | exact SubH.both (by simp [subL])) ?_ | (refine ⟨?_, AAt.of (by first | exact SubH.refl | exact SubH.app | exact SubH.both (by simp [subL])) ?_⟩; · omega)
        refine AAny.takes (fuel := 6) (by kernel_rfl) (by kernel_rfl) [6, 7] (by kernel_rfl) (by kernel_rfl) ?_
        simp -dsimp -implicitDefEqProofs (disch := omega) [go_sem, -List.getD_eq_getElem?_getD, ite_yes, lf, hm5]
        refine AAny.one 5 3 (by kernel_rfl) (by kernel_rfl) (by kernel_rfl) ?_
        simp -dsimp -implicitDefEqProofs (disch := omega) [go_sem, -List.getD_eq_getElem?_getD, ite_yes, lf, hm5]
        first | refine AAt.of (by first | exact SubH.refl | exact SubH.app | exact SubH.both (by simp [subL])) ?_ | (refine ⟨?_, AAt.of (by first | exact SubH.refl | exact SubH.app | exact SubH.both (by simp [subL])) ?_⟩; · omega)
        refine AAny.one 4 8 (by kernel_rfl) (by kernel_rfl) (by kernel_rfl) ?_
        simp -dsimp -implicitDefEqProofs (disch := omega) [go_sem, -List.getD_eq_getElem?_getD, ite_yes, lf, hm5]
        first | refine AAt.of (by first | exact SubH.refl | exact SubH.app | exact SubH.both (by simp [subL])) ?_ | (refine ⟨?_, AAt.of (by first | exact SubH.refl | exact SubH.app | exact SubH.both (by simp [subL])) ?_⟩; · omega)
        refine AAny.one 3 9 (by kernel_rfl) (by kernel_rfl) (by kernel_rfl) ?_
        simp -dsimp -implicitDefEqProofs (disch := omega) [go_sem, -List.getD_eq_getElem?_getD, ite_yes, lf, hm5]
        obtain ⟨w5, hw5⟩ : ∃ w5, w5 = ([0, 5, 100, 99999, -1, 100000] : List Int).take m5 := ⟨_, rfl⟩
        have hl5 : w5.length = m5 := by rw [hw5, List.length_take]; simp; omega
        rw [← hl5]
        refine ACall.via (among_R (h.curJ 1 rfl (by omega)) (by omega) w5 (by omega) (by omega) _ _ (by omega) (hw5 ▸ (Sl.nth (l := [0, 5, 100, 99999, -1, 100000]) 6 rfl rfl).take m5)) ?_
        rintro _ _ ⟨z, rfl, zm, a6, s6, q6, q6', rfl⟩
        simp -dsimp -implicitDefEqProofs (disch := omega) [go_sem, -List.getD_eq_getElem?_getD, ite_yes, lf, hm5]
        first | refine AAt.of (by first | exact SubH.refl | exact SubH.app | exact SubH.both (by simp [subL])) ?_ | (refine ⟨?_, AAt.of (by first | exact SubH.refl | exact SubH.app | exact SubH.both (by simp [subL])) ?_⟩; · omega)
        refine AAny.takes (fuel := 2) (by kernel_rfl) (by kernel_rfl) [10] (by kernel_rfl) (by kernel_rfl) ?_
        simp -dsimp -implicitDefEqProofs (disch := omega) [go_sem, -List.getD_eq_getElem?_getD, ite_yes, lf, hm5]
        refine AAny.one 1 11 (by kernel_rfl) (by kernel_rfl) (by kernel_rfl) ?_
        simp -dsimp -implicitDefEqProofs (disch := omega) [go_sem, -List.getD_eq_getElem?_getD, ite_yes, lf, hm5]
        first | refine AAt.of (by first | exact SubH.refl | exact SubH.app | exact SubH.both (by simp [subL])) ?_ | (refine ⟨?_, AAt.of (by first | exact SubH.refl | exact SubH.app | exact SubH.both (by simp [subL])) ?_⟩; · omega)
        refine AAny.takes (fuel := 0) (by kernel_rfl) (by kernel_rfl) [12] (by kernel_rfl) (by kernel_rfl) ?_
        simp -dsimp -implicitDefEqProofs (disch := omega) [go_sem, -List.getD_eq_getElem?_getD, ite_yes, lf, hm5]
        refine AAny.done (by kernel_rfl) ?_
        simp -dsimp -implicitDefEqProofs (disch := omega) [go_sem, -List.getD_eq_getElem?_getD, ite_yes, lf, hm5]
        refine EndR.of (.tuple #[.slice (some ⟨H.length, 0, none⟩) l.length l.length, .agg #[.int .i64 (IntKind.i64.wrap ((l.getD (l.length - 1) (0, 0)).1 + 1)), .int .i64 ((IntKind.i64.wrap ((l.getD (l.length - 1) (0, 0)).2 + y)).tmod 100000)], .int .i64 z]) _ ⟨l, ((IntKind.i64.wrap ((l.getD (l.length - 1) (0, 0)).1 + 1)), ((IntKind.i64.wrap ((l.getD (l.length - 1) (0, 0)).2 + y)).tmod 100000)), z, rfl, l1, rfl⟩ (fin_list [some 2] rfl ?_ (by simp -dsimp -implicitDefEqProofs (disch := omega) [go_sem, -List.getD_eq_getElem?_getD, ite_yes]))
        simp -dsimp -implicitDefEqProofs (disch := omega) [go_sem, -List.getD_eq_getElem?_getD, ite_yes]
        exact .inl ⟨rfl, rdE_flat _⟩
  · have h0' : ¬ (0 : Int) < (l.length : Int) := by omega
    simp -dsimp -implicitDefEqProofs (disch := omega) [go_sem, -List.getD_eq_getElem?_getD, ite_yes, h0, h0']
    refine ADraw.any (H ++ [none, none, none, none, some ⟨[.int .i64 d, .int .i64 x], true, 35, 1⟩]) (by kernel_rfl) (by first | exact SubH.refl | exact SubH.app | exact SubH.both (by simp [subL])) ?_
    refine AAny.takes (fuel := 9) (by kernel_rfl) (by kernel_rfl) [0, 1, 2, 4] (by kernel_rfl) (by kernel_rfl) ?_
    simp -dsimp -implicitDefEqProofs (disch := omega) [go_sem, -List.getD_eq_getElem?_getD, ite_yes, lf]
    refine AAny.two 8 3 5 (by kernel_rfl) (by kernel_rfl) (by kernel_rfl) ?_ ?_
    · simp -dsimp -implicitDefEqProofs (disch := omega) [go_sem, -List.getD_eq_getElem?_getD, ite_yes, lf]
      first | refine AAt.of (by first | exact SubH.refl | exact SubH.app | exact SubH.both (by simp [subL])) ?_ | (refine ⟨?_, AAt.of (by first | exact SubH.refl | exact SubH.app | exact SubH.both (by simp [subL])) ?_⟩; · omega)
      refine AAny.one 7 5 (by kernel_rfl) (by kernel_rfl) (by kernel_rfl) ?_
      simp -dsimp -implicitDefEqProofs (disch := omega) [go_sem, -List.getD_eq_getElem?_getD, ite_yes, lf]
      refine ACall.via (pick_R (h.curJ 1 rfl (by omega)) (by omega) 24 (by omega)) ?_
      rintro _ _ ⟨r5, rfl, r50, r51, a5, s5, q5, q5', rfl⟩
      obtain ⟨k5, rfl⟩ : ∃ k : Nat, r5 = (k : Int) := ⟨r5.toNat, by omega⟩
      obtain ⟨m5, hm5, hm6, hm7⟩ : ∃ m5 : Nat, 4 + (k5 : Int) / 11 = m5 ∧ 4 ≤ m5 ∧ m5 ≤ 6 := ⟨4 + k5 / 11, by omega, by omega, by omega⟩
      simp -dsimp -implicitDefEqProofs (disch := omega) [go_sem, -List.getD_eq_getElem?_getD, ite_yes, lf, hm5]
      first | refine AAt.of (by first | exact SubH.refl | exact SubH.app | exact SubH.both (by simp [subL])) ?_ | (refine ⟨?_, AAt.of (by first | exact SubH.refl | exact SubH.app | exact SubH.both (by simp [subL])) ?_⟩; · omega)
      refine AAny.takes (fuel := 5) (by kernel_rfl) (by kernel_rfl) [6, 7] (by kernel_rfl) (by kernel_rfl) ?_
      simp -dsimp -implicitDefEqProofs (disch := omega) [go_sem, -List.getD_eq_getElem?_getD, ite_yes, lf, hm5]
      refine AAny.one 4 8 (by kernel_rfl) (by kernel_rfl) (by kernel_rfl) ?_
      simp -dsimp -implicitDefEqProofs (disch := omega) [go_sem, -List.getD_eq_getElem?_getD, ite_yes, lf, hm5]
      first | refine AAt.of (by first | exact SubH.refl | exact SubH.app | exact SubH.both (by simp [subL])) ?_ | (refine ⟨?_, AAt.of (by first | exact SubH.refl | exact SubH.app | exact SubH.both (by simp [subL])) ?_⟩; · omega)
      refine AAny.one 3 9 (by kernel_rfl) (by kernel_rfl) (by kernel_rfl) ?_
      simp -dsimp -implicitDefEqProofs (disch := omega) [go_sem, -List.getD_eq_getElem?_getD, ite_yes, lf, hm5]
      obtain ⟨w5, hw5⟩ : ∃ w5, w5 = ([0, 5, 100, 99999, -1, 100000] : List Int).take m5 := ⟨_, rfl⟩
      have hl5 : w5.length = m5 := by rw [hw5, List.length_take]; simp; omega
      rw [← hl5]
      refine ACall.via (among_R (h.curJ 1 rfl (by omega)) (by omega) w5 (by omega) (by omega) _ _ (by omega) (hw5 ▸ (Sl.nth (l := [0, 5, 100, 99999, -1, 100000]) 5 rfl rfl).take m5)) ?_
      rintro _ _ ⟨z, rfl, zm, a6, s6, q6, q6', rfl⟩
      simp -dsimp -implicitDefEqProofs (disch := omega) [go_sem, -List.getD_eq_getElem?_getD, ite_yes, lf, hm5]
      first | refine AAt.of (by first | exact SubH.refl | exact SubH.app | exact SubH.both (by simp [subL])) ?_ | (refine ⟨?_, AAt.of (by first | exact SubH.refl | exact SubH.app | exact SubH.both (by simp [subL])) ?_⟩; · omega)
      refine AAny.takes (fuel := 2) (by kernel_rfl) (by kernel_rfl) [10] (by kernel_rfl) (by kernel_rfl) ?_
      simp -dsimp -implicitDefEqProofs (disch := omega) [go_sem, -List.getD_eq_getElem?_getD, ite_yes, lf, hm5]
      refine AAny.one 1 11 (by kernel_rfl) (by kernel_rfl) (by kernel_rfl) ?_
      simp -dsimp -implicitDefEqProofs (disch := omega) [go_sem, -List.getD_eq_getElem?_getD, ite_yes, lf, hm5]
      first | refine AAt.of (by first | exact SubH.refl | exact SubH.app | exact SubH.both (by simp [subL])) ?_ | (refine ⟨?_, AAt.of (by first | exact SubH.refl | exact SubH.app | exact SubH.both (by simp [subL])) ?_⟩; · omega)
      refine AAny.takes (fuel := 0) (by kernel_rfl) (by kernel_rfl) [12] (by kernel_rfl) (by kernel_rfl) ?_
      simp -dsimp -implicitDefEqProofs (disch := omega) [go_sem, -List.getD_eq_getElem?_getD, ite_yes, lf, hm5]
      refine AAny.done (by kernel_rfl) ?_
      simp -dsimp -implicitDefEqProofs (disch := omega) [go_sem, -List.getD_eq_getElem?_getD, ite_yes, lf, hm5]
      refine EndR.of (.tuple #[.slice (some ⟨H.length, 0, none⟩) l.length l.length, .agg #[.int .i64 d, .int .i64 x], .int .i64 z]) _ ⟨l, (d, x), z, rfl, l1, rfl⟩ (fin_list [some 2] rfl ?_ (by simp -dsimp -implicitDefEqProofs (disch := omega) [go_sem, -List.getD_eq_getElem?_getD, ite_yes]))
      simp -dsimp -implicitDefEqProofs (disch := omega) [go_sem, -List.getD_eq_getElem?_getD, ite_yes]
      exact .inl ⟨rfl, rdE_flat _⟩
    · simp -dsimp -implicitDefEqProofs (disch := omega) [go_sem, -List.getD_eq_getElem?_getD, ite_yes, lf]
      refine ACall.via (pick_R (h.curJ 1 rfl (by omega)) (by omega) 24 (by omega)) ?_
      rintro _ _ ⟨r5, rfl, r50, r51, a5, s5, q5, q5', rfl⟩
      obtain ⟨k5, rfl⟩ : ∃ k : Nat, r5 = (k : Int) := ⟨r5.toNat, by omega⟩
      obtain ⟨m5, hm5, hm6, hm7⟩ : ∃ m5 : Nat, 4 + (k5 : Int) / 11 = m5 ∧ 4 ≤ m5 ∧ m5 ≤ 6 := ⟨4 + k5 / 11, by omega, by omega, by omega⟩
      simp -dsimp -implicitDefEqProofs (disch := omega) [go_sem, -List.getD_eq_getElem?_getD, ite_yes, lf, hm5]
      first | refine AAt.of (by first | exact SubH.refl | exact SubH.app | exact SubH.both (by simp [subL])) ?_ | (refine ⟨?_, AAt.of (by first | exact SubH.refl | exact SubH.app | exact SubH.both (by simp [subL])) ?_⟩; · omega)
      refine AAny.takes (fuel := 6) (by kernel_rfl) (by kernel_rfl) [6, 7] (by kernel_rfl) (by kernel_rfl) ?_
      simp -dsimp -implicitDefEqProofs (disch := omega) [go_sem, -List.getD_eq_getElem?_getD, ite_yes, lf, hm5]
      refine AAny.one 5 3 (by kernel_rfl) (by kernel_rfl) (by kernel_rfl) ?_
      simp -dsimp -implicitDefEqProofs (disch := omega) [go_sem, -List.getD_eq_getElem?_getD, ite_yes, lf, hm5]
      first | refine AAt.of (by first | exact SubH.refl | exact SubH.app | exact SubH.both (by simp [subL])) ?_ | (refine ⟨?_, AAt.of (by first | exact SubH.refl | exact SubH.app | exact SubH.both (by simp [subL])) ?_⟩; · omega)
      refine AAny.one 4 8 (by kernel_rfl) (by kernel_rfl) (by kernel_rfl) ?_
      simp -dsimp -implicitDefEqProofs (disch := omega) [go_sem, -List.getD_eq_getElem?_getD, ite_yes, lf, hm5]
      first | refine AAt.of (by first | exact SubH.refl | exact SubH.app | exact SubH.both (by simp [subL])) ?_ | (refine ⟨?_, AAt.of (by first | exact SubH.refl | exact SubH.app | exact SubH.both (by simp [subL])) ?_⟩; · omega)
      refine AAny.one 3 9 (by kernel_rfl) (by kernel_rfl) (by kernel_rfl) ?_
      simp -dsimp -implicitDefEqProofs (disch := omega) [go_sem, -List.getD_eq_getElem?_getD, ite_yes, lf, hm5]
      obtain ⟨w5, hw5⟩ : ∃ w5, w5 = ([0, 5, 100, 99999, -1, 100000] : List Int).take m5 := ⟨_, rfl⟩
      have hl5 : w5.length = m5 := by rw [hw5, List.length_take]; simp; omega
      rw [← hl5]
      refine ACall.via (among_R (h.curJ 1 rfl (by omega)) (by omega) w5 (by omega) (by omega) _ _ (by omega) (hw5 ▸ (Sl.nth (l := [0, 5, 100, 99999, -1, 100000]) 5 rfl rfl).take m5)) ?_
      rintro _ _ ⟨z, rfl, zm, a6, s6, q6, q6', rfl⟩
      simp -dsimp -implicitDefEqProofs (disch := omega) [go_sem, -List.getD_eq_getElem?_getD, ite_yes, lf, hm5]
      first | refine AAt.of (by first | exact SubH.refl | exact SubH.app | exact SubH.both (by simp [subL])) ?_ | (refine ⟨?_, AAt.of (by first | exact SubH.refl | exact SubH.app | exact SubH.both (by simp [subL])) ?_⟩; · omega)
      refine AAny.takes (fuel := 2) (by kernel_rfl) (by kernel_rfl) [10] (by kernel_rfl) (by kernel_rfl) ?_
      simp -dsimp -implicitDefEqProofs (disch := omega) [go_sem, -List.getD_eq_getElem?_getD, ite_yes, lf, hm5]
      refine AAny.one 1 11 (by kernel_rfl) (by kernel_rfl) (by kernel_rfl) ?_
      simp -dsimp -implicitDefEqProofs (disch := omega) [go_sem, -List.getD_eq_getElem?_getD, ite_yes, lf, hm5]
      first | refine AAt.of (by first | exact SubH.refl | exact SubH.app | exact SubH.both (by simp [subL])) ?_ | (refine ⟨?_, AAt.of (by first | exact SubH.refl | exact SubH.app | exact SubH.both (by simp [subL])) ?_⟩; · omega)
      refine AAny.takes (fuel := 0) (by kernel_rfl) (by kernel_rfl) [12] (by kernel_rfl) (by kernel_rfl) ?_
      simp -dsimp -implicitDefEqProofs (disch := omega) [go_sem, -List.getD_eq_getElem?_getD, ite_yes, lf, hm5]
      refine AAny.done (by kernel_rfl) ?_
      simp -dsimp -implicitDefEqProofs (disch := omega) [go_sem, -List.getD_eq_getElem?_getD, ite_yes, lf, hm5]
      refine EndR.of (.tuple #[.slice (some ⟨H.length, 0, none⟩) l.length l.length, .agg #[.int .i64 d, .int .i64 x], .int .i64 z]) _ ⟨l, (d, x), z, rfl, l1, rfl⟩ (fin_list [some 2] rfl ?_ (by simp -dsimp -implicitDefEqProofs (disch := omega) [go_sem, -List.getD_eq_getElem?_getD, ite_yes]))
      simp -dsimp -implicitDefEqProofs (disch := omega) [go_sem, -List.getD_eq_getElem?_getD, ite_yes]
      exact .inl ⟨rfl, rdE_flat _⟩
end Go.Proofs.Ytfpikkhbkmchgaa
