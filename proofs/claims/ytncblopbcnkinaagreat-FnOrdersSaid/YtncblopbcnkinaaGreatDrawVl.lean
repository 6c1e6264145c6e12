/- Nodes, pipes and valves that are drawn. -/
import Derived.Test.YtncblopbcnkinaaGreatShort
import Derived.Test.YtncblopbcnkinaaGreatDrawAny
import Derived.Test.YtncblopbcnkinaaGreatDrawBy
import Derived.Test.YtncblopbcnkinaaGreatRecVl
namespace Go.Am
open Go.RowKit
theorem AAny.four {P : Program} {N : Nat} {H0 H Hf : Heap} {ops : Array Oper} {fr : Fr} {Q : APost} {f' : Nat} {listed : Array Bool} {tok' : Tok (P, N, H0, ops, Q, Hf, f', listed)} (fuel i j k l : Nat) (hfu : f' = fuel + 1) (hd : (ops.toList.all fun o => Fr.dstOk N o.dst) = true) (hr : Region.ready .any ops listed = [i, j, k, l])
    (h1 : vAt P ops i (kAt P N H0 ops Q Hf fuel (listed.setIfInBounds i true)) fr H) (h2 : vAt P ops j (kAt P N H0 ops Q Hf fuel (listed.setIfInBounds j true)) fr H) (h3 : vAt P ops k (kAt P N H0 ops Q Hf fuel (listed.setIfInBounds k true)) fr H) (h4 : vAt P ops l (kAt P N H0 ops Q Hf fuel (listed.setIfInBounds l true)) fr H) : AAny P N H0 ops Q Hf f' listed fr H tok' :=
  AAny.all [i, j, k, l] hfu hd hr (by simp) fun q hq => by
    rcases List.mem_cons.1 hq with rfl | hq
    · exact h1
    · rcases List.mem_cons.1 hq with rfl | hq
      · exact h2
      · rcases List.mem_cons.1 hq with rfl | hq
        · exact h3
        · obtain rfl : q = l := by simpa using hq
          exact h4
end Go.Am
namespace Go.Proofs.YtncblopbcnkinaaGreat
open Go.Am
set_option linter.unusedVariables false
set_option linter.unusedSimpArgs false
set_option maxRecDepth 100000
set_option maxHeartbeats 4000000

theorem Sl.setO {H : Heap} {tp t : Nat} {ps : List Pp} (hP : Sl ppE H tp ps) (hne : tp ≠ t) (x : Option Blk) : Sl ppE (H.set t x) tp ps := by
  obtain ⟨b, r, hb, hx⟩ := hP
  refine ⟨b, r, ?_, hx⟩
  rw [Heap.get_set_ne hne]; exact hb
theorem WeakS.castH {H0 H' K K' : Heap} {fr' fr : Fr} (e : K = K') (h : WeakS H0 fr' H' fr K') : WeakS H0 fr' H' fr K := by rw [e]; exact h
theorem SubH.setN {H L : Heap} {t : Nat} {x : Option Blk} : SubH (H.set t none) (H.set t x ++ L) := by
  refine ⟨by simp, fun t' b hb => ⟨b, ?_, rfl, rfl⟩⟩
  have ht' := Heap.get_lt hb
  rw [List.length_set] at ht'
  have hne : t' ≠ t := by
    rintro rfl
    rw [Heap.get_set_self ht'] at hb; cases hb
  rw [Heap.get_set_ne hne] at hb
  rw [Heap.get_append_left (by simpa using ht'), Heap.get_set_ne hne]
  exact hb
theorem SubH.setNL {H L L' : Heap} {t : Nat} {x : Option Blk} (h : subL L L') : SubH (H.set t none ++ L) (H.set t x ++ L') := by
  have ih := subL_sub h
  have hl : (H.set t none).length = (H.set t x).length := by simp
  refine ⟨by have := ih.le; simpa using this, fun t' b hb => ?_⟩
  rcases Nat.lt_or_ge t' (H.set t none).length with ht' | ht'
  · rw [Heap.get_append_left ht'] at hb
    have hne : t' ≠ t := by
      rintro rfl
      rw [Heap.get_set_self (by simpa using ht')] at hb; cases hb
    rw [Heap.get_set_ne hne] at hb
    exact ⟨b, by rw [Heap.get_append_left (by omega), Heap.get_set_ne hne]; exact hb, rfl, rfl⟩
  · obtain ⟨j, rfl⟩ : ∃ j, t' = (H.set t none).length + j := ⟨t' - (H.set t none).length, by omega⟩
    rw [Heap.get_append_right] at hb
    rw [hl, Heap.get_append_right]
    exact ih.sub j b hb
def PNumC (H : Heap) (t tc n cc : Nat) (at_ : Int) (v : Value) (H' : Heap) : Prop := ∃ x a s : Int, v = .int .i64 x ∧ at_ ≤ a ∧ a ≤ at_ + 4 ∧ H' = H.set t (curB tc n cc a s)
theorem nodeOf_R {H : Heap} {t tc n cc : Nat} {at_ seed : Int} (h : Cur H t tc n cc at_ seed) (hA : at_ ≤ 100000000000000000) (N : Int) (hN : N ≤ 60000) (tp len cp : Nat) (htp : tp < H.length) :
    AFunR Tryz.prog 37 [.pointer (some ⟨t, 0, none⟩), netV N tp len cp] H (PNumC H t tc n cc at_) := by
  refine AFunR.of_body Tryz.func37 (by kernel_rfl) rfl (by kernel_rfl) (by simp [Tryz.ntmps37]) ?_
  have ht := h.lt
  have p0 := h.pos
  have si := fun (x : Option Blk) (L : Heap) (y : Option Blk) => set_into (H := H) (L := L) (x := x) ht (y := y)
  have s0 := fun (L : Heap) (y : Option Blk) => set_into0 (H := H) (L := L) ht (y := y)
  by_cases h1 : N < 1
  · simp -dsimp -implicitDefEqProofs (disch := omega) [go_sem, -List.getD_eq_getElem?_getD, ite_yes, h1]
    refine ACall.via (among_R (h.app _) (by omega) [0, 9, 1, -1] (by simp) (by simp) _ _ (by omega) (Sl.nth 1 rfl rfl)) ?_
    rintro _ _ ⟨x, rfl, xm, a3, s3, q3, q3', rfl⟩
    simp -dsimp -implicitDefEqProofs (disch := omega) [go_sem, -List.getD_eq_getElem?_getD, ite_yes, s0]
    exact went_flat h a3 s3 _ rfl ⟨x, a3, s3, rfl, by omega, by omega, rfl⟩
  simp -dsimp -implicitDefEqProofs (disch := omega) [go_sem, -List.getD_eq_getElem?_getD, ite_yes, h1]
  refine ACall.via (one_R (h.app _) (by omega) 12 (by omega)) ?_
  rintro _ _ ⟨b, rfl, a4, s4, q4, q4', rfl⟩
  cases b
  · simp -dsimp -implicitDefEqProofs (disch := omega) [go_sem, -List.getD_eq_getElem?_getD, ite_yes, s0]
    refine ACall.via (pick_R ((h.step (by omega)).app _) (by omega) N (by omega)) ?_
    rintro _ _ ⟨r, rfl, r0, r1, a5, s5, q5, q5', rfl⟩
    simp -dsimp -implicitDefEqProofs (disch := omega) [go_sem, -List.getD_eq_getElem?_getD, ite_yes, si]
    exact went_flat h a5 s5 _ rfl ⟨1 + r, a5, s5, rfl, by omega, by omega, rfl⟩
  · simp -dsimp -implicitDefEqProofs (disch := omega) [go_sem, -List.getD_eq_getElem?_getD, ite_yes, s0]
    refine ACall.via (among_R ((h.step (by omega)).app _) (by omega) [0, 9, 1, -1] (by simp) (by simp) _ _ (by omega) (Sl.nthS 1 rfl rfl)) ?_
    rintro _ _ ⟨x, rfl, xm, a5, s5, q5, q5', rfl⟩
    simp -dsimp -implicitDefEqProofs (disch := omega) [go_sem, -List.getD_eq_getElem?_getD, ite_yes, si]
    exact went_flat h a5 s5 _ rfl ⟨x, a5, s5, rfl, by omega, by omega, rfl⟩
theorem pipeOf_R {H : Heap} {t tc n cc : Nat} {at_ seed : Int} (h : Cur H t tc n cc at_ seed) (hA : at_ ≤ 100000000000000000) (N : Int) (ps : List Pp) (hp : ps.length ≤ 30) (tp cp : Nat) (hP : Sl ppE H tp ps) (hne : tp ≠ t) :
    AFunR Tryz.prog 99 [.pointer (some ⟨t, 0, none⟩), netV N tp ps.length cp] H (PNumC H t tc n cc at_) := by
  refine AFunR.of_body Tryz.func99 (by kernel_rfl) rfl (by kernel_rfl) (by simp [Tryz.ntmps99]) ?_
  have ht := h.lt
  have p0 := h.pos
  have htp := hP.lt
  have si := fun (x : Option Blk) (L : Heap) (y : Option Blk) => set_into (H := H) (L := L) (x := x) ht (y := y)
  have s0 := fun (L : Heap) (y : Option Blk) => set_into0 (H := H) (L := L) ht (y := y)
  by_cases h1 : ps.length = 0
  · simp -dsimp -implicitDefEqProofs (disch := omega) [go_sem, -List.getD_eq_getElem?_getD, ite_yes, h1, htp]
    refine ACall.via (pick_R (h.app _) (by omega) 20 (by omega)) ?_
    rintro _ _ ⟨x, rfl, x0, x1, a3, s3, q3, q3', rfl⟩
    simp -dsimp -implicitDefEqProofs (disch := omega) [go_sem, -List.getD_eq_getElem?_getD, ite_yes, s0]
    exact went_flat h a3 s3 _ rfl ⟨x, a3, s3, rfl, by omega, by omega, rfl⟩
  have h1' : ¬ (ps.length : Int) = 0 := by omega
  simp -dsimp -implicitDefEqProofs (disch := omega) [go_sem, -List.getD_eq_getElem?_getD, ite_yes, h1, h1', htp]
  refine ACall.via (one_R (h.app _) (by omega) 10 (by omega)) ?_
  rintro _ _ ⟨b, rfl, a4, s4, q4, q4', rfl⟩
  cases b
  rotate_left
  · simp -dsimp -implicitDefEqProofs (disch := omega) [go_sem, -List.getD_eq_getElem?_getD, ite_yes, s0]
    refine ACall.via (pick_R ((h.step (by omega)).app _) (by omega) 20 (by omega)) ?_
    rintro _ _ ⟨x, rfl, x0, x1, a5, s5, q5, q5', rfl⟩
    simp -dsimp -implicitDefEqProofs (disch := omega) [go_sem, -List.getD_eq_getElem?_getD, ite_yes, si]
    exact went_flat h a5 s5 _ rfl ⟨x, a5, s5, rfl, by omega, by omega, rfl⟩
  have c0 := fun (x : Option Blk) k hk => (Sl.setO hP hne x).cell (s := 4) (fun _ => rfl) pp0 k 0 hk (by omega)
  simp only [ppE, Nat.add_zero] at c0
  have c0 := fun x k hk => c0 (some x) k hk
  simp -dsimp -implicitDefEqProofs (disch := omega) [go_sem, -List.getD_eq_getElem?_getD, ite_yes, s0, htp]
  refine ADraw.any [] (by kernel_rfl) (SubH.nil) ?_
  refine AAny.takes (fuel := 8) (by kernel_rfl) (by kernel_rfl) [0, 2, 3] (by kernel_rfl) (by kernel_rfl) ?_
  simp -dsimp -implicitDefEqProofs (disch := omega) [go_sem, -List.getD_eq_getElem?_getD, ite_yes, si, ht, htp]
  refine AAny.two 7 1 4 (by kernel_rfl) (by kernel_rfl) (by kernel_rfl) ?_ ?_
  · simp -dsimp -implicitDefEqProofs (disch := omega) [go_sem, -List.getD_eq_getElem?_getD, ite_yes, si, ht, htp]
    first | refine AAt.of (SubH.nil) ?_ | (refine ⟨?_, AAt.of (SubH.nil) ?_⟩; · omega)
    refine AAny.one 6 4 (by kernel_rfl) (by kernel_rfl) (by kernel_rfl) ?_
    simp -dsimp -implicitDefEqProofs (disch := omega) [go_sem, -List.getD_eq_getElem?_getD, ite_yes, si, ht, htp]
    first | refine AAt.of (SubH.nil) ?_ | (refine ⟨?_, AAt.of (SubH.nil) ?_⟩; · omega)
    refine AAny.takes (fuel := 5) (by kernel_rfl) (by kernel_rfl) [5] (by kernel_rfl) (by kernel_rfl) ?_
    simp -dsimp -implicitDefEqProofs (disch := omega) [go_sem, -List.getD_eq_getElem?_getD, ite_yes, si, ht, htp]
    refine AAny.one 4 6 (by kernel_rfl) (by kernel_rfl) (by kernel_rfl) ?_
    simp -dsimp -implicitDefEqProofs (disch := omega) [go_sem, -List.getD_eq_getElem?_getD, ite_yes, si, ht, htp]
    refine ACall.via (pick_R ((h.step (by omega)).app _) (by omega) ps.length (by omega)) ?_
    rintro _ _ ⟨r5, rfl, r50, r51, a7, s7, q7, q7', rfl⟩
    obtain ⟨k5, rfl⟩ : ∃ k : Nat, r5 = (k : Int) := ⟨r5.toNat, by omega⟩
    have hk5 : k5 < ps.length := by omega
    have hk5' : (k5 : Int) < (ps.length : Int) := by omega
    have c5 := fun x => c0 x k5 hk5
    simp -dsimp -implicitDefEqProofs (disch := omega) [go_sem, -List.getD_eq_getElem?_getD, ite_yes, si, ht, htp, hk5, hk5', c5]
    first | refine AAt.of (SubH.nil) ?_ | (refine ⟨?_, AAt.of (SubH.nil) ?_⟩; · omega)
    refine AAny.takes (fuel := 2) (by kernel_rfl) (by kernel_rfl) [7, 8] (by kernel_rfl) (by kernel_rfl) ?_
    simp -dsimp -implicitDefEqProofs (disch := omega) [go_sem, -List.getD_eq_getElem?_getD, ite_yes, si, ht, htp, hk5, hk5', c5]
    refine AAny.one 1 9 (by kernel_rfl) (by kernel_rfl) (by kernel_rfl) ?_
    simp -dsimp -implicitDefEqProofs (disch := omega) [go_sem, -List.getD_eq_getElem?_getD, ite_yes, si, ht, htp, hk5, hk5', c5]
    first | refine AAt.of (SubH.nil) ?_ | (refine ⟨?_, AAt.of (SubH.nil) ?_⟩; · omega)
    refine AAny.takes (fuel := 0) (by kernel_rfl) (by kernel_rfl) [10] (by kernel_rfl) (by kernel_rfl) ?_
    simp -dsimp -implicitDefEqProofs (disch := omega) [go_sem, -List.getD_eq_getElem?_getD, ite_yes, si, ht, htp, hk5, hk5', c5]
    refine AAny.done (by kernel_rfl) ?_
    simp -dsimp -implicitDefEqProofs (disch := omega) [go_sem, -List.getD_eq_getElem?_getD, ite_yes, si, ht, htp, hk5, hk5', c5]
    exact went_flat h a7 s7 _ rfl ⟨_, a7, s7, rfl, by omega, by omega, rfl⟩
  · simp -dsimp -implicitDefEqProofs (disch := omega) [go_sem, -List.getD_eq_getElem?_getD, ite_yes, si, ht, htp]
    first | refine AAt.of (SubH.nil) ?_ | (refine ⟨?_, AAt.of (SubH.nil) ?_⟩; · omega)
    refine AAny.takes (fuel := 6) (by kernel_rfl) (by kernel_rfl) [5] (by kernel_rfl) (by kernel_rfl) ?_
    simp -dsimp -implicitDefEqProofs (disch := omega) [go_sem, -List.getD_eq_getElem?_getD, ite_yes, si, ht, htp]
    refine AAny.two 5 1 6 (by kernel_rfl) (by kernel_rfl) (by kernel_rfl) ?_ ?_
    · simp -dsimp -implicitDefEqProofs (disch := omega) [go_sem, -List.getD_eq_getElem?_getD, ite_yes, si, ht, htp]
      first | refine AAt.of (SubH.nil) ?_ | (refine ⟨?_, AAt.of (SubH.nil) ?_⟩; · omega)
      refine AAny.one 4 6 (by kernel_rfl) (by kernel_rfl) (by kernel_rfl) ?_
      simp -dsimp -implicitDefEqProofs (disch := omega) [go_sem, -List.getD_eq_getElem?_getD, ite_yes, si, ht, htp]
      refine ACall.via (pick_R ((h.step (by omega)).app _) (by omega) ps.length (by omega)) ?_
      rintro _ _ ⟨r5, rfl, r50, r51, a7, s7, q7, q7', rfl⟩
      obtain ⟨k5, rfl⟩ : ∃ k : Nat, r5 = (k : Int) := ⟨r5.toNat, by omega⟩
      have hk5 : k5 < ps.length := by omega
      have hk5' : (k5 : Int) < (ps.length : Int) := by omega
      have c5 := fun x => c0 x k5 hk5
      simp -dsimp -implicitDefEqProofs (disch := omega) [go_sem, -List.getD_eq_getElem?_getD, ite_yes, si, ht, htp, hk5, hk5', c5]
      first | refine AAt.of (SubH.nil) ?_ | (refine ⟨?_, AAt.of (SubH.nil) ?_⟩; · omega)
      refine AAny.takes (fuel := 2) (by kernel_rfl) (by kernel_rfl) [7, 8] (by kernel_rfl) (by kernel_rfl) ?_
      simp -dsimp -implicitDefEqProofs (disch := omega) [go_sem, -List.getD_eq_getElem?_getD, ite_yes, si, ht, htp, hk5, hk5', c5]
      refine AAny.one 1 9 (by kernel_rfl) (by kernel_rfl) (by kernel_rfl) ?_
      simp -dsimp -implicitDefEqProofs (disch := omega) [go_sem, -List.getD_eq_getElem?_getD, ite_yes, si, ht, htp, hk5, hk5', c5]
      first | refine AAt.of (SubH.nil) ?_ | (refine ⟨?_, AAt.of (SubH.nil) ?_⟩; · omega)
      refine AAny.takes (fuel := 0) (by kernel_rfl) (by kernel_rfl) [10] (by kernel_rfl) (by kernel_rfl) ?_
      simp -dsimp -implicitDefEqProofs (disch := omega) [go_sem, -List.getD_eq_getElem?_getD, ite_yes, si, ht, htp, hk5, hk5', c5]
      refine AAny.done (by kernel_rfl) ?_
      simp -dsimp -implicitDefEqProofs (disch := omega) [go_sem, -List.getD_eq_getElem?_getD, ite_yes, si, ht, htp, hk5, hk5', c5]
      exact went_flat h a7 s7 _ rfl ⟨_, a7, s7, rfl, by omega, by omega, rfl⟩
    · simp -dsimp -implicitDefEqProofs (disch := omega) [go_sem, -List.getD_eq_getElem?_getD, ite_yes, si, ht, htp]
      refine ACall.via (pick_R ((h.step (by omega)).app _) (by omega) ps.length (by omega)) ?_
      rintro _ _ ⟨r5, rfl, r50, r51, a7, s7, q7, q7', rfl⟩
      obtain ⟨k5, rfl⟩ : ∃ k : Nat, r5 = (k : Int) := ⟨r5.toNat, by omega⟩
      have hk5 : k5 < ps.length := by omega
      have hk5' : (k5 : Int) < (ps.length : Int) := by omega
      have c5 := fun x => c0 x k5 hk5
      simp -dsimp -implicitDefEqProofs (disch := omega) [go_sem, -List.getD_eq_getElem?_getD, ite_yes, si, ht, htp, hk5, hk5', c5]
      first | refine AAt.of (SubH.nil) ?_ | (refine ⟨?_, AAt.of (SubH.nil) ?_⟩; · omega)
      refine AAny.one 4 1 (by kernel_rfl) (by kernel_rfl) (by kernel_rfl) ?_
      simp -dsimp -implicitDefEqProofs (disch := omega) [go_sem, -List.getD_eq_getElem?_getD, ite_yes, si, ht, htp, hk5, hk5', c5]
      first | refine AAt.of (SubH.nil) ?_ | (refine ⟨?_, AAt.of (SubH.nil) ?_⟩; · omega)
      refine AAny.takes (fuel := 2) (by kernel_rfl) (by kernel_rfl) [7, 8] (by kernel_rfl) (by kernel_rfl) ?_
      simp -dsimp -implicitDefEqProofs (disch := omega) [go_sem, -List.getD_eq_getElem?_getD, ite_yes, si, ht, htp, hk5, hk5', c5]
      refine AAny.one 1 9 (by kernel_rfl) (by kernel_rfl) (by kernel_rfl) ?_
      simp -dsimp -implicitDefEqProofs (disch := omega) [go_sem, -List.getD_eq_getElem?_getD, ite_yes, si, ht, htp, hk5, hk5', c5]
      first | refine AAt.of (SubH.nil) ?_ | (refine ⟨?_, AAt.of (SubH.nil) ?_⟩; · omega)
      refine AAny.takes (fuel := 0) (by kernel_rfl) (by kernel_rfl) [10] (by kernel_rfl) (by kernel_rfl) ?_
      simp -dsimp -implicitDefEqProofs (disch := omega) [go_sem, -List.getD_eq_getElem?_getD, ite_yes, si, ht, htp, hk5, hk5', c5]
      refine AAny.done (by kernel_rfl) ?_
      simp -dsimp -implicitDefEqProofs (disch := omega) [go_sem, -List.getD_eq_getElem?_getD, ite_yes, si, ht, htp, hk5, hk5', c5]
      exact went_flat h a7 s7 _ rfl ⟨_, a7, s7, rfl, by omega, by omega, rfl⟩
end Go.Proofs.YtncblopbcnkinaaGreat
