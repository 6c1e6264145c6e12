/- Leak1, SortI, LeakP, Leak2, Leak3, in one text. -/
import Derived.Test.YteojpgmclplggaaLlM1
import Derived.Test.YteojpgmclplggaaAm17
/- Areas: what is valid, and what is lost in a night. -/
namespace Go.Proofs.Yteojpgmclplggaa
open Go.Am
set_option linter.unusedVariables false
set_option linter.unusedSimpArgs false
set_option maxRecDepth 100000
set_option maxHeartbeats 4000000
/-- an area's value -/
abbrev areaV (id ho : Int) (t n c : Nat) : Value := .agg #[.int .i64 id, .int .i64 ho, .slice (some ⟨t, 0, none⟩) n c]
def notF (x : Int) : Bool := !inB x 0 1000000
def flowsB (L : List Int) : Bool := !decide (0 ≤ ixOf notF L)
def areaB (id ho : Int) (L : List Int) : Bool := inB id 1 99 && (inB ho 1 10000 && (inB (L.length : Int) 1 14 && flowsB L))
structure AreaAt (id ho : Int) (L : List Int) : Prop where
  i : 1 ≤ id ∧ id ≤ 99
  h : 1 ≤ ho ∧ ho ≤ 10000
  n : 1 ≤ L.length ∧ L.length ≤ 14
  f : ∀ k, k < L.length → 0 ≤ L.getD k 0 ∧ L.getD k 0 ≤ 1000000
theorem inB_iff {x a b : Int} : inB x a b = true ↔ a ≤ x ∧ x ≤ b := by simp [inB]
theorem area_at {id ho : Int} {L : List Int} (h : areaB id ho L = true) : AreaAt id ho L := by
  unfold areaB at h
  simp only [Bool.and_eq_true, inB_iff] at h
  obtain ⟨h1, h2, h3, h4⟩ := h
  refine ⟨h1, h2, by omega, fun k hk => ?_⟩
  unfold flowsB at h4
  rcases ix_cases 0 notF L with ⟨_, h5⟩ | ⟨q, h5, _⟩
  · have := h5 k hk
    unfold notF at this
    have : inB (L.getD k 0) 0 1000000 = true := by simpa using this
    exact inB_iff.1 this
  · rw [h5, decide_eq_true (by omega)] at h4
    cases h4
theorem wl_area {id ho : Int} {t n c m j : Nat} {js : List (Option Nat)} (ht : t < m) : WL (sg m js) (m + j) [.int .i64 id, .int .i64 ho, .slice (some ⟨t, 0, none⟩) n c] [.int .i64 id, .int .i64 ho, .slice (some ⟨t, 0, none⟩) n c] :=
  have h : t < m + j := by omega
  .inr ⟨rfl, rfl, ⟨h, .inl ⟨t, c, by simp [sg, ht], rfl⟩⟩, trivial⟩
theorem isLeakFlow_A (x : Int) (H : Heap) : AFunC Try.prog 47 [.int .i64 x] H (.bool (inB x 0 1000000)) H := by
  refine AFunC.of_body Try.func47 (by kernel_rfl) rfl (by kernel_rfl) (by simp [Try.ntmps47]) ?_
  simp -dsimp -implicitDefEqProofs (disch := omega) [go_sem, -List.getD_eq_getElem?_getD, ite_yes]
  refine ACall.of (inside_A _ _ _ _) ?_
  simp -dsimp -implicitDefEqProofs (disch := omega) [go_sem, -List.getD_eq_getElem?_getD, ite_yes]
  exact fin_flat0 rfl rfl
theorem validArea1_A (x : Int) (H : Heap) : AFunC Try.prog 46 [.int .i64 x] H (.bool (notF x)) H := by
  refine AFunC.of_body Try.func46 (by kernel_rfl) rfl (by kernel_rfl) (by simp [Try.ntmps46]) ?_
  simp -dsimp -implicitDefEqProofs (disch := omega) [go_sem, -List.getD_eq_getElem?_getD, ite_yes]
  refine ACall.of (isLeakFlow_A _ _) ?_
  simp -dsimp -implicitDefEqProofs (disch := omega) [go_sem, -List.getD_eq_getElem?_getD, ite_yes]
  exact fin_flat0 rfl rfl
theorem validArea_A (id ho : Int) (L : List Int) (hL : L.length ≤ 1048577) (c : Nat) (H : Heap) (t : Nat) (hS : Sl nmE H t L) :
    AFunC Try.prog 20 [areaV id ho t L.length c] H (.bool (areaB id ho L)) H := by
  refine AFunC.of_body Try.func20 (by kernel_rfl) rfl (by kernel_rfl) (by simp [Try.ntmps20]) ?_
  have ht := hS.lt
  simp -dsimp -implicitDefEqProofs (disch := omega) [go_sem, -List.getD_eq_getElem?_getD, ite_yes, ht]
  refine ACall.of (inside_A _ _ _ _) ?_
  cases h1 : inB id 1 99
  · simp -dsimp -implicitDefEqProofs (disch := omega) [go_sem, -List.getD_eq_getElem?_getD, ite_yes, ht]
    exact fin_flat rfl (by rw [areaB, h1]; rfl)
  simp -dsimp -implicitDefEqProofs (disch := omega) [go_sem, -List.getD_eq_getElem?_getD, ite_yes, ht]
  refine ACall.of (inside_A _ _ _ _) ?_
  cases h2 : inB ho 1 10000
  · simp -dsimp -implicitDefEqProofs (disch := omega) [go_sem, -List.getD_eq_getElem?_getD, ite_yes, ht]
    exact fin_flat rfl (by rw [areaB, h1, h2]; rfl)
  simp -dsimp -implicitDefEqProofs (disch := omega) [go_sem, -List.getD_eq_getElem?_getD, ite_yes, ht]
  refine ACall.of (inside_A _ _ _ _) ?_
  cases h3 : inB (L.length : Int) 1 14
  · simp -dsimp -implicitDefEqProofs (disch := omega) [go_sem, -List.getD_eq_getElem?_getD, ite_yes, ht]
    exact fin_flat rfl (by rw [areaB, h1, h2, h3]; rfl)
  simp -dsimp -implicitDefEqProofs (disch := omega) [go_sem, -List.getD_eq_getElem?_getD, ite_yes, ht]
  refine ACall.of (containsFuncNm_A L notF 46 #[] hL c _ t hS.app trivial fun k hk => validArea1_A _ _) ?_
  simp -dsimp -implicitDefEqProofs (disch := omega) [go_sem, -List.getD_eq_getElem?_getD, ite_yes]
  exact fin_flat rfl (by rw [areaB, h1, h2, h3, flowsB]; simp)
theorem l17Flow_A (x : Int) (H : Heap) : AFunC Try.prog 50 [.int .i64 x] H (.bool (inB x 0 1000000)) H := by
  refine AFunC.of_body Try.func50 (by kernel_rfl) rfl (by kernel_rfl) (by simp [Try.ntmps50]) ?_
  simp -dsimp -implicitDefEqProofs (disch := omega) [go_sem, -List.getD_eq_getElem?_getD, ite_yes]
  refine ACall.of (l1In_A _ _ _ _) ?_
  simp -dsimp -implicitDefEqProofs (disch := omega) [go_sem, -List.getD_eq_getElem?_getD, ite_yes]
  exact fin_flat0 rfl rfl
theorem l17Good_A (id ho : Int) (L : List Int) (hL : L.length ≤ 1048577) (c : Nat) (H : Heap) (t : Nat) (hS : Sl nmE H t L) :
    AFunC Try.prog 25 [areaV id ho t L.length c] H (.bool (areaB id ho L)) H := by
  refine AFunC.of_body Try.func25 (by kernel_rfl) rfl (by kernel_rfl) (by simp [Try.ntmps25]) ?_
  have ht := hS.lt
  have cs := fun k hk => hS.one (g := fun n => Value.int .i64 n) 0 k hk
  have hr := found_ix 0 notF L
  simp -dsimp -implicitDefEqProofs (disch := omega) [go_sem, -List.getD_eq_getElem?_getD, ite_yes, ht]
  refine ALoop.intro (ι := Nat) (fun k => k ≤ L.length ∧ findTo 0 notF L k) (fun k => [(1, .pointer (some ⟨H.length, 0, none⟩)), (3, .int .i64 k)]) (fun _ => H ++ [some ⟨[.int .i64 id, .int .i64 ho, .slice (some ⟨t, 0, none⟩) L.length c], true, 26, 1⟩]) (fun k => L.length - k) 0 ⟨by omega, fun i hi => by omega⟩ ?_ ?_
  · refine weakS_mk [some 0] rfl ?_ (by simp -dsimp -implicitDefEqProofs (disch := omega) [go_sem, -List.getD_eq_getElem?_getD, ite_yes, ht])
    simp -dsimp -implicitDefEqProofs (disch := omega) [go_sem, -List.getD_eq_getElem?_getD, ite_yes]
    exact wl_area ht
  rintro k ⟨hk, hf⟩
  by_cases hlt : k < L.length
  · have hltn : (k : Int) < (L.length : Int) := by omega
    have c1 := cs k hlt
    simp -dsimp -implicitDefEqProofs (disch := omega) [go_sem, -List.getD_eq_getElem?_getD, ite_yes, hlt, hltn, ht, c1]
    refine ACall.of (l17Flow_A _ _) ?_
    cases h : inB (L.getD k 0) 0 1000000
    · simp -dsimp -implicitDefEqProofs (disch := omega) [go_sem, -List.getD_eq_getElem?_getD, ite_yes]
      have := found_uniq hr (.yes k hlt (by unfold notF; rw [h]; rfl) hf)
      exact fin_flat rfl (by rw [areaB, flowsB, this, decide_eq_true (show (0 : Int) ≤ (k : Int) by omega)]; simp)
    · simp -dsimp -implicitDefEqProofs (disch := omega) [go_sem, -List.getD_eq_getElem?_getD, ite_yes]
      refine LoopEnd.of (k + 1) ⟨by omega, hf.next (by unfold notF; rw [h]; rfl)⟩ (by omega) (weakS_mk [some 0] rfl ?_ (by simp -dsimp -implicitDefEqProofs (disch := omega) [go_sem, -List.getD_eq_getElem?_getD, ite_yes, ht]))
      simp -dsimp -implicitDefEqProofs (disch := omega) [go_sem, -List.getD_eq_getElem?_getD, ite_yes]
      exact wl_area ht
  · have hltn : ¬ (k : Int) < (L.length : Int) := by omega
    obtain rfl : k = L.length := by omega
    have e := found_uniq hr (.no hf)
    have ef : flowsB L = true := by rw [flowsB, e]; rfl
    simp -dsimp -implicitDefEqProofs (disch := omega) [go_sem, -List.getD_eq_getElem?_getD, ite_yes, hltn, ht]
    refine ACall.of (l1In_A _ _ _ _) ?_
    cases h1 : inB id 1 99
    · simp -dsimp -implicitDefEqProofs (disch := omega) [go_sem, -List.getD_eq_getElem?_getD, ite_yes, ht]
      exact fin_flat rfl (by rw [areaB, h1]; rfl)
    simp -dsimp -implicitDefEqProofs (disch := omega) [go_sem, -List.getD_eq_getElem?_getD, ite_yes, ht]
    refine ACall.of (l1In_A _ _ _ _) ?_
    cases h2 : inB ho 1 10000
    · simp -dsimp -implicitDefEqProofs (disch := omega) [go_sem, -List.getD_eq_getElem?_getD, ite_yes, ht]
      exact fin_flat rfl (by rw [areaB, h1, h2]; rfl)
    simp -dsimp -implicitDefEqProofs (disch := omega) [go_sem, -List.getD_eq_getElem?_getD, ite_yes, ht]
    refine ACall.of (l1In_A _ _ _ _) ?_
    simp -dsimp -implicitDefEqProofs (disch := omega) [go_sem, -List.getD_eq_getElem?_getD, ite_yes, ht]
    exact fin_flat rfl (by rw [areaB, h1, h2, ef]; simp)
/-- what is lost in a night -/
def lossN (ho : Int) (L : List Int) (k : Nat) : Int := max (L.getD k 0 - 2 * ho) 0
theorem loss_rng {id ho : Int} {L : List Int} (h : AreaAt id ho L) {k : Nat} (hk : k < L.length) : 0 ≤ lossN ho L k ∧ lossN ho L k ≤ 1000000 := by
  have := h.f k hk
  have := h.h
  unfold lossN
  omega
theorem lossOn_A (id ho : Int) (L : List Int) (ha : AreaAt id ho L) (k : Nat) (hk : k < L.length) (c : Nat) (H : Heap) (t : Nat) (hS : Sl nmE H t L) :
    AFunC Try.prog 24 [areaV id ho t L.length c, .int .i64 k] H (.int .i64 (lossN ho L k)) H := by
  refine AFunC.of_body Try.func24 (by kernel_rfl) rfl (by kernel_rfl) (by simp [Try.ntmps24]) ?_
  have ht := hS.lt
  have c1 := hS.one (g := fun n => Value.int .i64 n) 0 k hk
  have hki : (k : Int) < (L.length : Int) := by omega
  have hf := ha.f k hk
  have hh := ha.h
  simp -dsimp -implicitDefEqProofs (disch := omega) [go_sem, -List.getD_eq_getElem?_getD, ite_yes, ht]
  refine ADraw.quiet (by kernel_rfl) (by kernel_rfl) (by kernel_rfl) ?_
  simp -dsimp -implicitDefEqProofs (disch := omega) [go_sem, -List.getD_eq_getElem?_getD, ite_yes, ht, hk, hki, c1]
  have em : ∀ x : Int, (if x < 0 then 0 else x) = max x 0 := fun x => by split <;> omega
  exact fin_flat rfl (by simp [lossN, em])
theorem l17Lost_A (id ho : Int) (L : List Int) (ha : AreaAt id ho L) (k : Nat) (hk : k < L.length) (c : Nat) (H : Heap) (t : Nat) (hS : Sl nmE H t L) :
    AFunC Try.prog 27 [areaV id ho t L.length c, .int .i64 k] H (.int .i64 (lossN ho L k)) H := by
  refine AFunC.of_body Try.func27 (by kernel_rfl) rfl (by kernel_rfl) (by simp [Try.ntmps27]) ?_
  have ht := hS.lt
  have c1 := hS.one (g := fun n => Value.int .i64 n) 0 k hk
  have hki : (k : Int) < (L.length : Int) := by omega
  have hf := ha.f k hk
  have hh := ha.h
  simp -dsimp -implicitDefEqProofs (disch := omega) [go_sem, -List.getD_eq_getElem?_getD, ite_yes, ht]
  refine ADraw.quiet (by kernel_rfl) (by kernel_rfl) (by kernel_rfl) ?_
  simp -dsimp -implicitDefEqProofs (disch := omega) [go_sem, -List.getD_eq_getElem?_getD, ite_yes, ht, hk, hki, c1]
  refine ACallQ.of (l1Most_A _ _ _) rfl ?_
  simp -dsimp -implicitDefEqProofs (disch := omega) [go_sem, -List.getD_eq_getElem?_getD, ite_yes]
  exact fin_flat rfl (by simp [lossN]; omega)
def lossOk (id ho : Int) (L : List Int) (x : Int) : Bool := areaB id ho L && inB x 0 ((L.length : Int) - 1)
theorem lossOk_at {id ho : Int} {L : List Int} {x : Int} (h : lossOk id ho L x = true) : areaB id ho L = true ∧ ∃ k : Nat, x = (k : Int) ∧ k < L.length := by
  unfold lossOk at h
  rw [Bool.and_eq_true, inB_iff] at h
  exact ⟨h.1, x.toNat, by omega, by omega⟩
theorem iLossOn_bad (id ho : Int) (L : List Int) (hL : L.length ≤ 1048577) (x : Int) (hg : lossOk id ho L x = false) (c : Nat) (H : Heap) (t : Nat) (hS : Sl nmE H t L) :
    AFunC Try.prog 6 [areaV id ho t L.length c, .int .i64 x] H (.tuple #[.int .i64 0, .bool false]) H := by
  refine AFunC.of_body Try.func6 (by kernel_rfl) rfl (by kernel_rfl) (by simp [Try.ntmps6]) ?_
  have ht := hS.lt
  simp -dsimp -implicitDefEqProofs (disch := omega) [go_sem, -List.getD_eq_getElem?_getD, ite_yes, ht]
  refine ACall.of (validArea_A id ho L hL c _ t hS.app) ?_
  cases h1 : areaB id ho L
  · simp -dsimp -implicitDefEqProofs (disch := omega) [go_sem, -List.getD_eq_getElem?_getD, ite_yes, ht]
    exact fin_flat rfl rfl
  simp -dsimp -implicitDefEqProofs (disch := omega) [go_sem, -List.getD_eq_getElem?_getD, ite_yes, ht]
  refine ACall.of (inside_A _ _ _ _) ?_
  have h2 : inB x 0 ((L.length : Int) - 1) = false := by unfold lossOk at hg; rwa [h1, Bool.true_and] at hg
  simp -dsimp -implicitDefEqProofs (disch := omega) [go_sem, -List.getD_eq_getElem?_getD, ite_yes, ht, h2]
  exact fin_flat rfl rfl
theorem iLossOn_good (id ho : Int) (L : List Int) (k : Nat) (hg : lossOk id ho L k = true) (c : Nat) (H : Heap) (t : Nat) (hS : Sl nmE H t L) :
    AFunC Try.prog 6 [areaV id ho t L.length c, .int .i64 k] H (.tuple #[.int .i64 (lossN ho L k), .bool true]) H := by
  refine AFunC.of_body Try.func6 (by kernel_rfl) rfl (by kernel_rfl) (by simp [Try.ntmps6]) ?_
  have ht := hS.lt
  obtain ⟨h1, k', hk', hk⟩ := lossOk_at hg
  obtain rfl : k = k' := by omega
  have ha := area_at h1
  have hn := ha.n
  have h2 : inB (k : Int) 0 ((L.length : Int) - 1) = true := inB_iff.2 ⟨by omega, by omega⟩
  simp -dsimp -implicitDefEqProofs (disch := omega) [go_sem, -List.getD_eq_getElem?_getD, ite_yes, ht]
  refine ACall.of (validArea_A id ho L (by omega) c _ t hS.app) ?_
  simp -dsimp -implicitDefEqProofs (disch := omega) [go_sem, -List.getD_eq_getElem?_getD, ite_yes, ht, h1]
  refine ACall.of (inside_A _ _ _ _) ?_
  simp -dsimp -implicitDefEqProofs (disch := omega) [go_sem, -List.getD_eq_getElem?_getD, ite_yes, ht, h2]
  refine ACall.of (lossOn_A id ho L ha k hk c _ t hS.app) ?_
  simp -dsimp -implicitDefEqProofs (disch := omega) [go_sem, -List.getD_eq_getElem?_getD, ite_yes]
  exact fin_flat rfl rfl
theorem sLossOn_bad (id ho : Int) (L : List Int) (hL : L.length ≤ 1048577) (x : Int) (hg : lossOk id ho L x = false) (c : Nat) (H : Heap) (t : Nat) (hS : Sl nmE H t L) :
    AFunC Try.prog 7 [areaV id ho t L.length c, .int .i64 x] H (.tuple #[.int .i64 0, .bool false]) H := by
  refine AFunC.of_body Try.func7 (by kernel_rfl) rfl (by kernel_rfl) (by simp [Try.ntmps7]) ?_
  have ht := hS.lt
  simp -dsimp -implicitDefEqProofs (disch := omega) [go_sem, -List.getD_eq_getElem?_getD, ite_yes, ht]
  refine ACall.of (l17Good_A id ho L hL c _ t hS.app) ?_
  cases h1 : areaB id ho L
  · simp -dsimp -implicitDefEqProofs (disch := omega) [go_sem, -List.getD_eq_getElem?_getD, ite_yes, ht]
    exact fin_flat rfl rfl
  simp -dsimp -implicitDefEqProofs (disch := omega) [go_sem, -List.getD_eq_getElem?_getD, ite_yes, ht]
  refine ACall.of (l1In_A _ _ _ _) ?_
  have h2 : inB x 0 ((L.length : Int) - 1) = false := by unfold lossOk at hg; rwa [h1, Bool.true_and] at hg
  simp -dsimp -implicitDefEqProofs (disch := omega) [go_sem, -List.getD_eq_getElem?_getD, ite_yes, ht, h2]
  exact fin_flat rfl rfl
theorem sLossOn_good (id ho : Int) (L : List Int) (k : Nat) (hg : lossOk id ho L k = true) (c : Nat) (H : Heap) (t : Nat) (hS : Sl nmE H t L) :
    AFunC Try.prog 7 [areaV id ho t L.length c, .int .i64 k] H (.tuple #[.int .i64 (lossN ho L k), .bool true]) H := by
  refine AFunC.of_body Try.func7 (by kernel_rfl) rfl (by kernel_rfl) (by simp [Try.ntmps7]) ?_
  have ht := hS.lt
  obtain ⟨h1, k', hk', hk⟩ := lossOk_at hg
  obtain rfl : k = k' := by omega
  have ha := area_at h1
  have hn := ha.n
  have h2 : inB (k : Int) 0 ((L.length : Int) - 1) = true := inB_iff.2 ⟨by omega, by omega⟩
  simp -dsimp -implicitDefEqProofs (disch := omega) [go_sem, -List.getD_eq_getElem?_getD, ite_yes, ht]
  refine ACall.of (l17Good_A id ho L (by omega) c _ t hS.app) ?_
  simp -dsimp -implicitDefEqProofs (disch := omega) [go_sem, -List.getD_eq_getElem?_getD, ite_yes, ht, h1]
  refine ACall.of (l1In_A _ _ _ _) ?_
  simp -dsimp -implicitDefEqProofs (disch := omega) [go_sem, -List.getD_eq_getElem?_getD, ite_yes, ht, h2]
  refine ACall.of (l17Lost_A id ho L ha k hk c _ t hS.app) ?_
  simp -dsimp -implicitDefEqProofs (disch := omega) [go_sem, -List.getD_eq_getElem?_getD, ite_yes]
  exact fin_flat rfl rfl
def lossSum (ho : Int) (L : List Int) : Nat → Int
  | 0 => 0
  | k + 1 => lossSum ho L k + lossN ho L k
theorem lossSum_rng {id ho : Int} {L : List Int} (h : AreaAt id ho L) : ∀ k, k ≤ L.length → 0 ≤ lossSum ho L k ∧ lossSum ho L k ≤ 1000000 * (k : Int)
  | 0, _ => by simp [lossSum]
  | k + 1, hk => by
    have ih := lossSum_rng h k (by omega)
    have := loss_rng h (show k < L.length by omega)
    rw [lossSum]
    omega
theorem iMean_bad (id ho : Int) (L : List Int) (hL : L.length ≤ 1048577) (hg : areaB id ho L = false) (c : Nat) (H : Heap) (t : Nat) (hS : Sl nmE H t L) :
    AFunC Try.prog 18 [areaV id ho t L.length c] H (.tuple #[.int .i64 0, .int .i64 0, .bool false]) H := by
  refine AFunC.of_body Try.func18 (by kernel_rfl) rfl (by kernel_rfl) (by simp [Try.ntmps18]) ?_
  have ht := hS.lt
  simp -dsimp -implicitDefEqProofs (disch := omega) [go_sem, -List.getD_eq_getElem?_getD, ite_yes, ht]
  refine ACall.of (validArea_A id ho L hL c _ t hS.app) ?_
  simp -dsimp -implicitDefEqProofs (disch := omega) [go_sem, -List.getD_eq_getElem?_getD, ite_yes, ht, hg]
  exact fin_flat rfl rfl
theorem iMean_good (id ho : Int) (L : List Int) (hg : areaB id ho L = true) (c : Nat) (H : Heap) (t : Nat) (hS : Sl nmE H t L) :
    AFunC Try.prog 18 [areaV id ho t L.length c] H (.tuple #[.int .i64 ((lossSum ho L L.length).toNat / Nat.gcd (lossSum ho L L.length).toNat L.length : Nat), .int .i64 (L.length / Nat.gcd (lossSum ho L L.length).toNat L.length : Nat), .bool true]) H := by
  refine AFunC.of_body Try.func18 (by kernel_rfl) rfl (by kernel_rfl) (by simp [Try.ntmps18]) ?_
  have ht := hS.lt
  have ha := area_at hg
  have hn := ha.n
  simp -dsimp -implicitDefEqProofs (disch := omega) [go_sem, -List.getD_eq_getElem?_getD, ite_yes, ht]
  refine ACall.of (validArea_A id ho L (by omega) c _ t hS.app) ?_
  simp -dsimp -implicitDefEqProofs (disch := omega) [go_sem, -List.getD_eq_getElem?_getD, ite_yes, ht, hg]
  refine ALoop.intro (ι := Nat) (fun k => k ≤ L.length) (fun k => [(1, .pointer (some ⟨H.length, 0, none⟩)), (5, .int .i64 (lossSum ho L k)), (14, .int .i64 L.length), (15, .int .i64 k)]) (fun _ => H ++ [some ⟨[.int .i64 id, .int .i64 ho, .slice (some ⟨t, 0, none⟩) L.length c], true, 26, 1⟩]) (fun k => L.length - k) 0 (by omega) ?_ ?_
  · refine weakS_mk [some 0] rfl ?_ (by simp -dsimp -implicitDefEqProofs (disch := omega) [go_sem, -List.getD_eq_getElem?_getD, ite_yes, ht, lossSum])
    simp -dsimp -implicitDefEqProofs (disch := omega) [go_sem, -List.getD_eq_getElem?_getD, ite_yes]
    exact wl_area ht
  intro k hk
  have sr := lossSum_rng ha k hk
  by_cases hlt : k < L.length
  · have hlti : (k : Int) < (L.length : Int) := by omega
    have e : lossSum ho L (k + 1) = lossSum ho L k + lossN ho L k := rfl
    have lr := loss_rng ha hlt
    simp -dsimp -implicitDefEqProofs (disch := omega) [go_sem, -List.getD_eq_getElem?_getD, ite_yes, hlt, hlti, ht]
    refine ACall.of (lossOn_A id ho L ha k hlt c _ t hS.app) ?_
    simp -dsimp -implicitDefEqProofs (disch := omega) [go_sem, -List.getD_eq_getElem?_getD, ite_yes, ht]
    refine LoopEnd.of (k + 1) (by omega) (by omega) (weakS_mk [some 0] rfl ?_ (by simp -dsimp -implicitDefEqProofs (disch := omega) [go_sem, -List.getD_eq_getElem?_getD, ite_yes, ht, e]))
    simp -dsimp -implicitDefEqProofs (disch := omega) [go_sem, -List.getD_eq_getElem?_getD, ite_yes]
    exact wl_area ht
  · have hlti : ¬ (k : Int) < (L.length : Int) := by omega
    obtain rfl : k = L.length := by omega
    obtain ⟨s, hs⟩ : ∃ s : Nat, lossSum ho L L.length = (s : Int) := ⟨(lossSum ho L L.length).toNat, by omega⟩
    rw [hs] at sr ⊢
    simp -dsimp -implicitDefEqProofs (disch := omega) [go_sem, -List.getD_eq_getElem?_getD, ite_yes, hlti, ht]
    refine ACall.of (lowestTerms_A s L.length (by omega) (by omega) (by omega) _) ?_
    simp -dsimp -implicitDefEqProofs (disch := omega) [go_sem, -List.getD_eq_getElem?_getD, ite_yes]
    exact fin_flat rfl (by simp)
theorem sMean_bad (id ho : Int) (L : List Int) (hL : L.length ≤ 1048577) (hg : areaB id ho L = false) (c : Nat) (H : Heap) (t : Nat) (hS : Sl nmE H t L) :
    AFunC Try.prog 19 [areaV id ho t L.length c] H (.tuple #[.int .i64 0, .int .i64 0, .bool false]) H := by
  refine AFunC.of_body Try.func19 (by kernel_rfl) rfl (by kernel_rfl) (by simp [Try.ntmps19]) ?_
  have ht := hS.lt
  simp -dsimp -implicitDefEqProofs (disch := omega) [go_sem, -List.getD_eq_getElem?_getD, ite_yes, ht]
  refine ACall.of (l17Good_A id ho L hL c _ t hS.app) ?_
  simp -dsimp -implicitDefEqProofs (disch := omega) [go_sem, -List.getD_eq_getElem?_getD, ite_yes, ht, hg]
  exact fin_flat rfl rfl
theorem sMean_good (id ho : Int) (L : List Int) (hg : areaB id ho L = true) (c : Nat) (H : Heap) (t : Nat) (hS : Sl nmE H t L) :
    AFunC Try.prog 19 [areaV id ho t L.length c] H (.tuple #[.int .i64 ((lossSum ho L L.length).toNat / Nat.gcd (lossSum ho L L.length).toNat L.length : Nat), .int .i64 (L.length / Nat.gcd (lossSum ho L L.length).toNat L.length : Nat), .bool true]) H := by
  refine AFunC.of_body Try.func19 (by kernel_rfl) rfl (by kernel_rfl) (by simp [Try.ntmps19]) ?_
  have ht := hS.lt
  have ha := area_at hg
  have hn := ha.n
  simp -dsimp -implicitDefEqProofs (disch := omega) [go_sem, -List.getD_eq_getElem?_getD, ite_yes, ht]
  refine ACall.of (l17Good_A id ho L (by omega) c _ t hS.app) ?_
  simp -dsimp -implicitDefEqProofs (disch := omega) [go_sem, -List.getD_eq_getElem?_getD, ite_yes, ht, hg]
  refine ALoop.intro (ι := Nat) (fun k => k ≤ L.length) (fun k => [(1, .pointer (some ⟨H.length, 0, none⟩)), (5, .int .i64 (lossSum ho L k)), (6, .int .i64 k)]) (fun _ => H ++ [some ⟨[.int .i64 id, .int .i64 ho, .slice (some ⟨t, 0, none⟩) L.length c], true, 26, 1⟩]) (fun k => L.length - k) 0 (by omega) ?_ ?_
  · refine weakS_mk [some 0] rfl ?_ (by simp -dsimp -implicitDefEqProofs (disch := omega) [go_sem, -List.getD_eq_getElem?_getD, ite_yes, ht, lossSum])
    simp -dsimp -implicitDefEqProofs (disch := omega) [go_sem, -List.getD_eq_getElem?_getD, ite_yes]
    exact wl_area ht
  intro k hk
  have sr := lossSum_rng ha k hk
  by_cases hlt : k < L.length
  · have hlti : (k : Int) < (L.length : Int) := by omega
    have e : lossSum ho L (k + 1) = lossSum ho L k + lossN ho L k := rfl
    have lr := loss_rng ha hlt
    simp -dsimp -implicitDefEqProofs (disch := omega) [go_sem, -List.getD_eq_getElem?_getD, ite_yes, hlt, hlti, ht]
    refine ACall.of (l17Lost_A id ho L ha k hlt c _ t hS.app) ?_
    simp -dsimp -implicitDefEqProofs (disch := omega) [go_sem, -List.getD_eq_getElem?_getD, ite_yes, ht]
    refine LoopEnd.of (k + 1) (by omega) (by omega) (weakS_mk [some 0] rfl ?_ (by simp -dsimp -implicitDefEqProofs (disch := omega) [go_sem, -List.getD_eq_getElem?_getD, ite_yes, ht, e]))
    simp -dsimp -implicitDefEqProofs (disch := omega) [go_sem, -List.getD_eq_getElem?_getD, ite_yes]
    exact wl_area ht
  · have hlti : ¬ (k : Int) < (L.length : Int) := by omega
    obtain rfl : k = L.length := by omega
    obtain ⟨s, hs⟩ : ∃ s : Nat, lossSum ho L L.length = (s : Int) := ⟨(lossSum ho L L.length).toNat, by omega⟩
    rw [hs] at sr ⊢
    simp -dsimp -implicitDefEqProofs (disch := omega) [go_sem, -List.getD_eq_getElem?_getD, ite_yes, hlti, ht]
    refine ACall.of (l3Reduce_A s L.length (by omega) (by omega) (by omega) _) ?_
    simp -dsimp -implicitDefEqProofs (disch := omega) [go_sem, -List.getD_eq_getElem?_getD, ite_yes]
    exact fin_flat rfl (by simp)
end Go.Proofs.Yteojpgmclplggaa
/- A stable sort of numbers below n, by a comparison that is told. -/
namespace Go.Proofs.Yteojpgmclplggaa
open Go.Am
set_option linter.unusedVariables false
set_option linter.unusedSimpArgs false
set_option maxRecDepth 100000
set_option maxHeartbeats 4000000
/-- where a number belongs among some: behind the last of the first k that it does not go before -/
def posI (lt : Int → Int → Bool) (L : List Int) (x : Int) : Nat → Nat
  | 0 => 0
  | k + 1 => if lt x (L.getD k 0) then posI lt L x k else k + 1
theorem posI_le (lt : Int → Int → Bool) (L : List Int) (x : Int) : ∀ k, posI lt L x k ≤ k
  | 0 => Nat.le_refl _
  | k + 1 => by have := posI_le lt L x k; rw [posI]; split <;> omega
def insI (lt : Int → Int → Bool) (L : List Int) (x : Int) : List Int := L.take (posI lt L x L.length) ++ x :: L.drop (posI lt L x L.length)
def ordI (lt : Int → Int → Bool) : Nat → List Int
  | 0 => []
  | i + 1 => insI lt (ordI lt i) i
theorem ordI_length (lt : Int → Int → Bool) : ∀ i, (ordI lt i).length = i
  | 0 => rfl
  | i + 1 => by
    have := ordI_length lt i
    have := posI_le lt (ordI lt i) i (ordI lt i).length
    rw [ordI, insI]
    simp only [List.length_append, List.length_take, List.length_cons, List.length_drop]
    omega
theorem ordI_mem (lt : Int → Int → Bool) : ∀ i, ∀ x ∈ ordI lt i, ∃ j : Nat, x = (j : Int) ∧ j < i
  | 0, x, h => absurd h (by simp [ordI])
  | i + 1, x, h => by
    rw [ordI, insI] at h
    rcases List.mem_append.1 h with h | h
    · obtain ⟨j, e, hj⟩ := ordI_mem lt i x (List.mem_of_mem_take h); exact ⟨j, e, by omega⟩
    · rcases List.mem_cons.1 h with h | h
      · exact ⟨i, h, by omega⟩
      · obtain ⟨j, e, hj⟩ := ordI_mem lt i x (List.mem_of_mem_drop h); exact ⟨j, e, by omega⟩
/-- the numbers from i on, below n -/
def fromI (n i : Nat) : List Int := (List.range' i (n - i)).map Int.ofNat
theorem fromI_cons {n i : Nat} (h : i < n) : fromI n i = (i : Int) :: fromI n (i + 1) := by
  unfold fromI
  rw [show n - i = (n - (i + 1)) + 1 by omega, List.range'_succ]; rfl
theorem fromI_end (n : Nat) : fromI n n = [] := by unfold fromI; rw [Nat.sub_self]; rfl
theorem fromI_length (n i : Nat) : (fromI n i).length = n - i := by unfold fromI; simp
/-- the list within the sort: task i stands at j -/
def midI (n : Nat) (lt : Int → Int → Bool) (i j : Nat) : List Int := (ordI lt i).take j ++ (i : Int) :: ((ordI lt i).drop j ++ fromI n (i + 1))
def outI (n : Nat) (lt : Int → Int → Bool) (i : Nat) : List Int := ordI lt i ++ fromI n i
theorem outI_mid {n : Nat} {lt : Int → Int → Bool} {i : Nat} (h : i < n) : outI n lt i = midI n lt i i := by
  unfold outI midI
  rw [fromI_cons h, List.take_of_length_le (by rw [ordI_length]; omega), List.drop_of_length_le (by rw [ordI_length]; omega), List.nil_append]
theorem midI_out (n : Nat) (lt : Int → Int → Bool) (i : Nat) : midI n lt i (posI lt (ordI lt i) i i) = outI n lt (i + 1) := by
  unfold outI midI
  rw [ordI, insI, ordI_length, List.append_assoc, List.cons_append]
theorem nmI_at (A T : List Int) (y : Int) : List.take 1 (List.drop A.length ((A ++ y :: T).flatMap nmE)) = [.int .i64 y] := by
  have e : ∀ M : List Int, M.flatMap nmE = M.map (Value.int .i64) := fun M => by
    induction M with
    | nil => rfl
    | cons x M ih => rw [List.flatMap_cons, ih]; rfl
  rw [e]; simp
theorem nmI_put (A T : List Int) (y z : Int) : ((A ++ y :: T).flatMap nmE).set A.length (.int .i64 z) = (A ++ z :: T).flatMap nmE := by
  have e : ∀ M : List Int, M.flatMap nmE = M.map (Value.int .i64) := fun M => by
    induction M with
    | nil => rfl
    | cons x M ih => rw [List.flatMap_cons, ih]; rfl
  rw [e, e]; simp
theorem aCells_roI {H : Heap} {t o n : Nat} : aCells (roH H) ⟨t, o, none⟩ n = aCells H ⟨t, o, none⟩ n := by
  rw [aCells_eq, aCells_eq, roH_get]
  cases H.get t <;> rfl
theorem insI_A (n : Nat) (hn20 : n ≤ 20) (lt : Int → Int → Bool) (c e g : Nat) (H : Heap) (t b1 b2 : Nat) (hb : H.get t = some ⟨(outI n lt 0).flatMap nmE, true, e, 1⟩) (hb1 : b1 < H.length) (hb2 : b2 < H.length)
    (hC : ∀ G : Heap, (∀ s, s ≠ t → G.get s = H.get s) → G.length = H.length → ∀ x y : Nat, x < n → y < n → ∃ r : Int, AFunC Try.prog g [.int .i64 x, .int .i64 y, .pointer (some ⟨b1, 0, none⟩), .pointer (some ⟨b2, 0, none⟩)] (roH G) (.int .i64 r) (roH G) ∧ (lt x y = true ↔ r < 0)) :
    AFunC Try.prog 58 [.slice (some ⟨t, 0, none⟩) n c, .int .i64 0, .int .i64 n, .func (.func g) #[] #[.pointer (some ⟨b1, 0, none⟩), .pointer (some ⟨b2, 0, none⟩)]] H (.tuple #[]) (H.set t (some ⟨(ordI lt n).flatMap nmE, true, e, 1⟩)) := by
  refine AFunC.of_body Try.func58 (by kernel_rfl) rfl (by kernel_rfl) (by simp [Try.ntmps58]) ?_
  have ht := Heap.get_lt hb
  have gs := fun x => Heap.get_set_self (H := H) ht (x := x)
  have e0 : outI n lt 0 = outI n lt 1 ∨ n = 0 := by
    rcases (show 1 ≤ n ∨ n = 0 by omega) with h | h
    · left
      unfold outI
      rw [fromI_cons (show 0 < n by omega)]
      simp [ordI, insI, posI]
    · right; exact h
  simp -dsimp -implicitDefEqProofs (disch := omega) [go_sem, -List.getD_eq_getElem?_getD, ite_yes, ht, hb1, hb2]
  refine ALoop.intro (ι := Nat) (fun i => 1 ≤ i ∧ i ≤ max n 1) (fun i => [(0, .slice (some ⟨t, 0, none⟩) n c), (1, .int .i64 0), (2, .int .i64 n), (3, .func (.func g) #[] #[.pointer (some ⟨b1, 0, none⟩), .pointer (some ⟨b2, 0, none⟩)]), (8, .int .i64 i)])
    (fun i => H.set t (some ⟨(if n = 0 then [] else outI n lt i).flatMap nmE, true, e, 1⟩)) (fun i => n - i) 1 (by omega) ?_ ?_
  · refine weakS_set ht (nmE_flat _) rfl ?_ (by simp -dsimp -implicitDefEqProofs (disch := omega) [go_sem, -List.getD_eq_getElem?_getD, ite_yes, ht, hb1, hb2])
    have : (if n = 0 then [] else outI n lt 1) = outI n lt 0 := by
      by_cases h : n = 0
      · rw [if_pos h]; unfold outI; rw [h]; rfl
      · rw [if_neg h]; exact (e0.resolve_right h).symm
    rw [this]; exact (Heap.set_self hb).symm
  rintro i ⟨hi1, hi2⟩
  by_cases hlt : i < n
  rotate_left
  · have hlti : ¬ (i : Int) < (n : Int) := by omega
    have he : (if n = 0 then [] else outI n lt i) = ordI lt n := by
      by_cases h : n = 0
      · rw [if_pos h, h]; rfl
      · rw [if_neg h]
        have : i = n := by omega
        subst this
        unfold outI; rw [fromI_end, List.append_nil]
    rw [he]
    simp -dsimp -implicitDefEqProofs (disch := omega) [go_sem, -List.getD_eq_getElem?_getD, ite_yes, hlti, hlt]
    exact fin_set ht (nmE_flat (ordI lt n)) rfl rfl rfl rfl
  have hlti : (i : Int) < (n : Int) := by omega
  have hn0 : n ≠ 0 := by omega
  have hol := ordI_length lt i
  simp only [hn0, if_false]
  simp -dsimp -implicitDefEqProofs (disch := omega) [go_sem, -List.getD_eq_getElem?_getD, ite_yes, hlti, hlt, ht, hb1, hb2]
  refine ALoop.intro (ι := Nat) (fun j => j ≤ i ∧ posI lt (ordI lt i) i i = posI lt (ordI lt i) i j) (fun j => [(0, .slice (some ⟨t, 0, none⟩) n c), (1, .int .i64 0), (2, .int .i64 n), (3, .func (.func g) #[] #[.pointer (some ⟨b1, 0, none⟩), .pointer (some ⟨b2, 0, none⟩)]), (8, .int .i64 i), (9, .int .i64 j)])
    (fun j => H.set t (some ⟨(midI n lt i j).flatMap nmE, true, e, 1⟩)) (fun j => j) i ⟨Nat.le_refl _, rfl⟩ ?_ ?_
  · exact weakS_set ht (nmE_flat _) rfl (by rw [outI_mid hlt]) (by simp -dsimp -implicitDefEqProofs (disch := omega) [go_sem, -List.getD_eq_getElem?_getD, ite_yes, ht, hb1, hb2])
  rintro j ⟨hj, hpos⟩
  have hend : posI lt (ordI lt i) i j = j → midI n lt i j = outI n lt (i + 1) := fun h => by rw [← midI_out, hpos, h]
  have hset : ∀ m : List Int, m = outI n lt (i + 1) → H.set t (some ⟨m.flatMap nmE, true, e, 1⟩) = H.set t (some ⟨(outI n lt (i + 1)).flatMap nmE, true, e, 1⟩) := fun m h => by rw [h]
  cases j with
  | zero =>
    have hm := hend rfl
    obtain ⟨M, hM⟩ : ∃ M, midI n lt i 0 = M := ⟨_, rfl⟩
    rw [hM] at hm ⊢
    simp -dsimp -implicitDefEqProofs (disch := omega) [go_sem, -List.getD_eq_getElem?_getD, ite_yes, ht, hb1, hb2]
    refine ADraw.quiet (by kernel_rfl) (by kernel_rfl) (by kernel_rfl) ?_
    simp -dsimp -implicitDefEqProofs (disch := omega) [go_sem, -List.getD_eq_getElem?_getD, ite_yes, ht, hb1, hb2]
    exact LoopEnd.of (i + 1) (by omega) (by omega) (weakS_set ht (nmE_flat _) rfl (hset M hm) (by simp -dsimp -implicitDefEqProofs (disch := omega) [go_sem, -List.getD_eq_getElem?_getD, ite_yes, ht, hb1, hb2]))
  | succ j =>
  have hjl : j < (ordI lt i).length := by omega
  obtain ⟨y, hy, hyi⟩ := ordI_mem lt i ((ordI lt i).getD j 0) (by rw [List.getD_eq_getElem?_getD, List.getElem?_eq_getElem hjl]; exact List.getElem_mem hjl)
  have hcell : (ordI lt i)[j] = (y : Int) := by
    rw [List.getD_eq_getElem?_getD, List.getElem?_eq_getElem hjl] at hy; exact hy
  have htl : ((ordI lt i).take j).length = j := by rw [List.length_take]; omega
  have eM : midI n lt i (j + 1) = (ordI lt i).take j ++ (y : Int) :: (i : Int) :: ((ordI lt i).drop (j + 1) ++ fromI n (i + 1)) := by
    unfold midI
    rw [List.take_succ_eq_append_getElem hjl, hcell, List.append_assoc]; rfl
  have eM2 : midI n lt i j = (ordI lt i).take j ++ (i : Int) :: (y : Int) :: ((ordI lt i).drop (j + 1) ++ fromI n (i + 1)) := by
    unfold midI
    rw [List.drop_eq_getElem_cons hjl, hcell, List.cons_append]
  have hlen : (midI n lt i (j + 1)).length = n := by
    rw [eM]; simp only [List.length_append, List.length_cons, List.length_drop, htl, fromI_length]; omega
  have hp : posI lt (ordI lt i) i (j + 1) = if lt (i : Int) (y : Int) then posI lt (ordI lt i) i j else j + 1 := by rw [posI, hy]
  have hfl : ((midI n lt i (j + 1)).flatMap nmE).length = n := by rw [nmE_length, hlen]; omega
  have ca : aCells (H.set t (some ⟨(midI n lt i (j + 1)).flatMap nmE, true, e, 1⟩)) ⟨t, j + 1, none⟩ 1 = some [.int .i64 i] := by
    have h9 := nmI_at ((ordI lt i).take j ++ [(y : Int)]) ((ordI lt i).drop (j + 1) ++ fromI n (i + 1)) (i : Int)
    rw [List.append_assoc, List.length_append, htl] at h9
    rw [aCells_eq, gs, aC1]
    simp only [hfl]
    rw [if_pos (by omega), eM]
    exact congrArg some h9
  have cbb : aCells (H.set t (some ⟨(midI n lt i (j + 1)).flatMap nmE, true, e, 1⟩)) ⟨t, j, none⟩ 1 = some [.int .i64 y] := by
    have h9 := nmI_at ((ordI lt i).take j) ((i : Int) :: ((ordI lt i).drop (j + 1) ++ fromI n (i + 1))) (y : Int)
    rw [htl] at h9
    rw [aCells_eq, gs, aC1]
    simp only [hfl]
    rw [if_pos (by omega), eM]
    exact congrArg some h9
  obtain ⟨M1, hM1⟩ : ∃ M, (ordI lt i).take j ++ (y : Int) :: (y : Int) :: ((ordI lt i).drop (j + 1) ++ fromI n (i + 1)) = M := ⟨_, rfl⟩
  have s1 : ((midI n lt i (j + 1)).flatMap nmE).set (j + 1) (.int .i64 y) = M1.flatMap nmE := by
    have h9 := nmI_put ((ordI lt i).take j ++ [(y : Int)]) ((ordI lt i).drop (j + 1) ++ fromI n (i + 1)) (i : Int) (y : Int)
    rw [List.append_assoc, List.length_append, htl, List.append_assoc] at h9
    rw [eM, ← hM1]
    exact h9
  have s2 : (M1.flatMap nmE).set j (.int .i64 i) = (midI n lt i j).flatMap nmE := by
    have h9 := nmI_put ((ordI lt i).take j) ((y : Int) :: ((ordI lt i).drop (j + 1) ++ fromI n (i + 1))) (y : Int) (i : Int)
    rw [htl] at h9
    rw [eM2, ← hM1]
    exact h9
  have hfl2 : (M1.flatMap nmE).length = n := by rw [← s1, List.length_set, hfl]
  obtain ⟨r, C, hr⟩ := hC (H.set t (some ⟨(midI n lt i (j + 1)).flatMap nmE, true, e, 1⟩)) (fun s hs => Heap.get_set_ne hs) (by simp) i y hlt (by omega)
  obtain ⟨M, hM⟩ : ∃ M, midI n lt i (j + 1) = M := ⟨_, rfl⟩
  rw [hM] at hend hfl ca cbb s1 C ⊢
  have hj0 : j < n := by omega
  have hj1 : j + 1 < n := by omega
  simp -dsimp -implicitDefEqProofs (disch := omega) [go_sem, -List.getD_eq_getElem?_getD, ite_yes, ht, hb1, hb2]
  refine ADraw.quiet (by kernel_rfl) (by kernel_rfl) (by kernel_rfl) ?_
  simp -dsimp -implicitDefEqProofs (disch := omega) [go_sem, -List.getD_eq_getElem?_getD, ite_yes, ht, hb1, hb2, hj0, hj1, ca, cbb]
  refine ACallQ.of C rfl ?_
  by_cases hxy : lt (i : Int) (y : Int) = true
  · rw [if_pos hxy] at hp
    rw [hp] at hpos
    have hc := hr.1 hxy
    simp -dsimp -implicitDefEqProofs (disch := omega) [go_sem, -List.getD_eq_getElem?_getD, ite_yes, ht, hb1, hb2, hc]
    refine ADraw.any [] (by kernel_rfl) (SubH.nil) ?_
    refine AAny.takes (fuel := 6) (by kernel_rfl) (by kernel_rfl) [0, 1, 2, 3, 4, 5, 6, 7, 8, 10, 11, 12] (by kernel_rfl) (by kernel_rfl) ?_
    simp -dsimp -implicitDefEqProofs (disch := omega) [go_sem, -List.getD_eq_getElem?_getD, ite_yes, ht, hj0, hj1, ca, cbb, gs, hfl, hfl2, s1, s2, List.set_set]
    refine AAny.two 5 9 13 (by kernel_rfl) (by kernel_rfl) (by kernel_rfl) ?_ ?_
    · simp -dsimp -implicitDefEqProofs (disch := omega) [go_sem, -List.getD_eq_getElem?_getD, ite_yes, ht, hj0, hj1, ca, cbb, gs, hfl, hfl2, s1, s2, List.set_set]
      first | refine AAt.of (SubH.nil) ?_ | (refine ⟨?_, AAt.of (SubH.nil) ?_⟩; · omega)
      refine AAny.one 4 13 (by kernel_rfl) (by kernel_rfl) (by kernel_rfl) ?_
      simp -dsimp -implicitDefEqProofs (disch := omega) [go_sem, -List.getD_eq_getElem?_getD, ite_yes, ht, hj0, hj1, ca, cbb, gs, hfl, hfl2, s1, s2, List.set_set]
      first | refine AAt.of (SubH.nil) ?_ | (refine ⟨?_, AAt.of (SubH.nil) ?_⟩; · omega)
      refine AAny.takes (fuel := 3) (by kernel_rfl) (by kernel_rfl) [14] (by kernel_rfl) (by kernel_rfl) ?_
      simp -dsimp -implicitDefEqProofs (disch := omega) [go_sem, -List.getD_eq_getElem?_getD, ite_yes, ht, hj0, hj1, ca, cbb, gs, hfl, hfl2, s1, s2, List.set_set]
      refine AAny.one 2 15 (by kernel_rfl) (by kernel_rfl) (by kernel_rfl) ?_
      simp -dsimp -implicitDefEqProofs (disch := omega) [go_sem, -List.getD_eq_getElem?_getD, ite_yes, ht, hj0, hj1, ca, cbb, gs, hfl, hfl2, s1, s2, List.set_set]
      first | refine AAt.of (SubH.nil) ?_ | (refine ⟨?_, AAt.of (SubH.nil) ?_⟩; · omega)
      refine AAny.takes (fuel := 1) (by kernel_rfl) (by kernel_rfl) [16] (by kernel_rfl) (by kernel_rfl) ?_
      simp -dsimp -implicitDefEqProofs (disch := omega) [go_sem, -List.getD_eq_getElem?_getD, ite_yes, ht, hj0, hj1, ca, cbb, gs, hfl, hfl2, s1, s2, List.set_set]
      refine AAny.one 0 17 (by kernel_rfl) (by kernel_rfl) (by kernel_rfl) ?_
      simp -dsimp -implicitDefEqProofs (disch := omega) [go_sem, -List.getD_eq_getElem?_getD, ite_yes, ht, hj0, hj1, ca, cbb, gs, hfl, hfl2, s1, s2, List.set_set]
      first | refine AAt.of (SubH.nil) ?_ | (refine ⟨?_, AAt.of (SubH.nil) ?_⟩; · omega)
      refine AAny.done (by kernel_rfl) ?_
      simp -dsimp -implicitDefEqProofs (disch := omega) [go_sem, -List.getD_eq_getElem?_getD, ite_yes, ht, hj0, hj1, ca, cbb, gs, hfl, hfl2, s1, s2, List.set_set]
      exact LoopEnd.of j ⟨by omega, hpos⟩ (by omega) (weakS_set (b := ⟨(midI n lt i j).flatMap nmE, true, e, 1⟩) ht (nmE_flat _) rfl (by simp [s1, s2]) (by simp -dsimp -implicitDefEqProofs (disch := omega) [go_sem, -List.getD_eq_getElem?_getD, ite_yes, ht, hb1, hb2]))
    · simp -dsimp -implicitDefEqProofs (disch := omega) [go_sem, -List.getD_eq_getElem?_getD, ite_yes, ht, hj0, hj1, ca, cbb, gs, hfl, hfl2, s1, s2, List.set_set]
      first | refine AAt.of (SubH.nil) ?_ | (refine ⟨?_, AAt.of (SubH.nil) ?_⟩; · omega)
      refine AAny.one 4 9 (by kernel_rfl) (by kernel_rfl) (by kernel_rfl) ?_
      simp -dsimp -implicitDefEqProofs (disch := omega) [go_sem, -List.getD_eq_getElem?_getD, ite_yes, ht, hj0, hj1, ca, cbb, gs, hfl, hfl2, s1, s2, List.set_set]
      first | refine AAt.of (SubH.nil) ?_ | (refine ⟨?_, AAt.of (SubH.nil) ?_⟩; · omega)
      refine AAny.takes (fuel := 3) (by kernel_rfl) (by kernel_rfl) [14] (by kernel_rfl) (by kernel_rfl) ?_
      simp -dsimp -implicitDefEqProofs (disch := omega) [go_sem, -List.getD_eq_getElem?_getD, ite_yes, ht, hj0, hj1, ca, cbb, gs, hfl, hfl2, s1, s2, List.set_set]
      refine AAny.one 2 15 (by kernel_rfl) (by kernel_rfl) (by kernel_rfl) ?_
      simp -dsimp -implicitDefEqProofs (disch := omega) [go_sem, -List.getD_eq_getElem?_getD, ite_yes, ht, hj0, hj1, ca, cbb, gs, hfl, hfl2, s1, s2, List.set_set]
      first | refine AAt.of (SubH.nil) ?_ | (refine ⟨?_, AAt.of (SubH.nil) ?_⟩; · omega)
      refine AAny.takes (fuel := 1) (by kernel_rfl) (by kernel_rfl) [16] (by kernel_rfl) (by kernel_rfl) ?_
      simp -dsimp -implicitDefEqProofs (disch := omega) [go_sem, -List.getD_eq_getElem?_getD, ite_yes, ht, hj0, hj1, ca, cbb, gs, hfl, hfl2, s1, s2, List.set_set]
      refine AAny.one 0 17 (by kernel_rfl) (by kernel_rfl) (by kernel_rfl) ?_
      simp -dsimp -implicitDefEqProofs (disch := omega) [go_sem, -List.getD_eq_getElem?_getD, ite_yes, ht, hj0, hj1, ca, cbb, gs, hfl, hfl2, s1, s2, List.set_set]
      first | refine AAt.of (SubH.nil) ?_ | (refine ⟨?_, AAt.of (SubH.nil) ?_⟩; · omega)
      refine AAny.done (by kernel_rfl) ?_
      simp -dsimp -implicitDefEqProofs (disch := omega) [go_sem, -List.getD_eq_getElem?_getD, ite_yes, ht, hj0, hj1, ca, cbb, gs, hfl, hfl2, s1, s2, List.set_set]
      exact LoopEnd.of j ⟨by omega, hpos⟩ (by omega) (weakS_set (b := ⟨(midI n lt i j).flatMap nmE, true, e, 1⟩) ht (nmE_flat _) rfl (by simp [s1, s2]) (by simp -dsimp -implicitDefEqProofs (disch := omega) [go_sem, -List.getD_eq_getElem?_getD, ite_yes, ht, hb1, hb2]))
  · rw [if_neg hxy] at hp
    have hc : ¬ r < 0 := fun h => hxy (hr.2 h)
    simp -dsimp -implicitDefEqProofs (disch := omega) [go_sem, -List.getD_eq_getElem?_getD, ite_yes, ht, hb1, hb2, hc]
    exact LoopEnd.of (i + 1) (by omega) (by omega) (weakS_set ht (nmE_flat _) rfl (hset M (hend hp)) (by simp -dsimp -implicitDefEqProofs (disch := omega) [go_sem, -List.getD_eq_getElem?_getD, ite_yes, ht, hb1, hb2]))
theorem stableI_A (n : Nat) (hn20 : n ≤ 19) (lt : Int → Int → Bool) (c e g : Nat) (H : Heap) (t b1 b2 : Nat) (hb : H.get t = some ⟨(outI n lt 0).flatMap nmE, true, e, 1⟩) (hb1 : b1 < H.length) (hb2 : b2 < H.length)
    (hC : ∀ G : Heap, (∀ s, s ≠ t → G.get s = H.get s) → G.length = H.length → ∀ x y : Nat, x < n → y < n → ∃ r : Int, AFunC Try.prog g [.int .i64 x, .int .i64 y, .pointer (some ⟨b1, 0, none⟩), .pointer (some ⟨b2, 0, none⟩)] (roH G) (.int .i64 r) (roH G) ∧ (lt x y = true ↔ r < 0)) :
    AFunC Try.prog 52 [.slice (some ⟨t, 0, none⟩) n c, .int .i64 n, .func (.func g) #[] #[.pointer (some ⟨b1, 0, none⟩), .pointer (some ⟨b2, 0, none⟩)]] H (.tuple #[]) (H.set t (some ⟨(ordI lt n).flatMap nmE, true, e, 1⟩)) := by
  refine AFunC.of_body Try.func52 (by kernel_rfl) rfl (by kernel_rfl) (by simp [Try.ntmps52]) ?_
  have ht := Heap.get_lt hb
  have h1 : ¬ (20 : Int) ≤ (n : Int) := by omega
  have h2 : ¬ (20 : Int) < (n : Int) := by omega
  have h1n : ¬ 20 ≤ n := by omega
  have h2n : ¬ 20 < n := by omega
  simp -dsimp -implicitDefEqProofs (disch := omega) [go_sem, -List.getD_eq_getElem?_getD, ite_yes, ht, hb1, hb2]
  refine ALoop.intro (ι := Unit) (fun _ => True) (fun _ => [(0, .slice (some ⟨t, 0, none⟩) n c), (1, .int .i64 n), (2, .func (.func g) #[] #[.pointer (some ⟨b1, 0, none⟩), .pointer (some ⟨b2, 0, none⟩)]), (6, .int .i64 20), (7, .int .i64 0), (8, .int .i64 20)]) (fun _ => H) (fun _ => 0) () trivial ?_ ?_
  · exact weakS_same (by simp -dsimp -implicitDefEqProofs (disch := omega) [go_sem, -List.getD_eq_getElem?_getD, ite_yes, ht, hb1, hb2])
  intro _ _
  simp -dsimp -implicitDefEqProofs (disch := omega) [go_sem, -List.getD_eq_getElem?_getD, ite_yes, h1, h1n, ht, hb1, hb2]
  refine ACall.of (insI_A n (by omega) lt c e g H t b1 b2 hb hb1 hb2 hC) ?_
  simp -dsimp -implicitDefEqProofs (disch := omega) [go_sem, -List.getD_eq_getElem?_getD, ite_yes, ht, hb1, hb2]
  refine ALoop.intro (ι := Unit) (fun _ => True) (fun _ => [(1, .int .i64 n), (6, .int .i64 20)]) (fun _ => H.set t (some ⟨(ordI lt n).flatMap nmE, true, e, 1⟩)) (fun _ => 0) () trivial ?_ ?_
  · exact weakS_set ht (nmE_flat _) rfl rfl (by simp -dsimp -implicitDefEqProofs (disch := omega) [go_sem, -List.getD_eq_getElem?_getD, ite_yes, ht, hb1, hb2])
  intro _ _
  simp -dsimp -implicitDefEqProofs (disch := omega) [go_sem, -List.getD_eq_getElem?_getD, ite_yes, h2, h2n]
  exact fin_set ht (nmE_flat (ordI lt n)) rfl rfl rfl rfl
theorem sortI_A (n : Nat) (hn20 : n ≤ 19) (lt : Int → Int → Bool) (c e g : Nat) (H : Heap) (t b1 b2 : Nat) (hb : H.get t = some ⟨(outI n lt 0).flatMap nmE, true, e, 1⟩) (hb1 : b1 < H.length) (hb2 : b2 < H.length)
    (hC : ∀ G : Heap, (∀ s, s ≠ t → G.get s = H.get s) → G.length = H.length → ∀ x y : Nat, x < n → y < n → ∃ r : Int, AFunC Try.prog g [.int .i64 x, .int .i64 y, .pointer (some ⟨b1, 0, none⟩), .pointer (some ⟨b2, 0, none⟩)] (roH G) (.int .i64 r) (roH G) ∧ (lt x y = true ↔ r < 0)) :
    AFunC Try.prog 35 [.slice (some ⟨t, 0, none⟩) n c, .func (.func g) #[] #[.pointer (some ⟨b1, 0, none⟩), .pointer (some ⟨b2, 0, none⟩)]] H (.tuple #[]) (H.set t (some ⟨(ordI lt n).flatMap nmE, true, e, 1⟩)) := by
  refine AFunC.of_body Try.func35 (by kernel_rfl) rfl (by kernel_rfl) (by simp [Try.ntmps35]) ?_
  have ht := Heap.get_lt hb
  simp -dsimp -implicitDefEqProofs (disch := omega) [go_sem, -List.getD_eq_getElem?_getD, ite_yes, ht, hb1, hb2]
  refine ACall.of (stableI_A n hn20 lt c e g H t b1 b2 hb hb1 hb2 hC) ?_
  simp -dsimp -implicitDefEqProofs (disch := omega) [go_sem, -List.getD_eq_getElem?_getD, ite_yes]
  exact fin_set ht (nmE_flat (ordI lt n)) rfl rfl rfl rfl
end Go.Proofs.Yteojpgmclplggaa
/- The order of repairs that loses least: plain. -/
namespace Go.Proofs.Yteojpgmclplggaa
open Go.Am
set_option linter.unusedVariables false
set_option linter.unusedSimpArgs false
/-- what x loses an hour, and how long its repair takes -/
def vAt' (l : List Int) (x : Int) : Int := l.getD x.toNat 0
/-- what is lost until all are repaired, from some hour on -/
def costF (lo ho : List Int) : Int → List Int → Int
  | _, [] => 0
  | e, x :: L => vAt' lo x * (e + vAt' ho x) + costF lo ho (e + vAt' ho x) L
/-- sum and end, after the first k -/
def lostTo (lo ho a : List Int) : Nat → Int × Int
  | 0 => (0, 0)
  | k + 1 => ((lostTo lo ho a k).1 + vAt' lo (a.getD k 0) * ((lostTo lo ho a k).2 + vAt' ho (a.getD k 0)), (lostTo lo ho a k).2 + vAt' ho (a.getD k 0))
theorem lostTo_cost (lo ho a : List Int) : ∀ k, k ≤ a.length → costF lo ho 0 a = (lostTo lo ho a k).1 + costF lo ho (lostTo lo ho a k).2 (a.drop k)
  | 0, _ => by simp [lostTo]
  | k + 1, hk => by
    have hlt : k < a.length := by omega
    have g : a.getD k 0 = a[k] := by rw [List.getD_eq_getElem?_getD, List.getElem?_eq_getElem hlt]; rfl
    rw [lostTo_cost lo ho a k (by omega), List.drop_eq_getElem_cons hlt, costF, lostTo, g]
    simp only
    omega
theorem lost_cost (lo ho a : List Int) : (lostTo lo ho a a.length).1 = costF lo ho 0 a := by
  have := lostTo_cost lo ho a a.length (Nat.le_refl _)
  rw [List.drop_length, costF] at this
  omega
def rp (lo ho : List Int) (x y : Int) : Bool := decide (vAt' lo y * vAt' ho x < vAt' lo x * vAt' ho y)
/-- x does not lose less than y, for its hours -/
def notLess (lo ho : List Int) (x y : Int) : Prop := vAt' lo y * vAt' ho x ≤ vAt' lo x * vAt' ho y
theorem cost_swap {lo ho : List Int} {x y : Int} (h : notLess lo ho x y) (e : Int) (R : List Int) : costF lo ho e (x :: y :: R) ≤ costF lo ho e (y :: x :: R) := by
  unfold notLess at h
  simp only [costF]
  have e1 : e + vAt' ho x + vAt' ho y = e + vAt' ho y + vAt' ho x := by omega
  rw [e1]
  have h1 : vAt' lo x * (e + vAt' ho x) = vAt' lo x * e + vAt' lo x * vAt' ho x := Int.mul_add _ _ _
  have h2 : vAt' lo y * (e + vAt' ho y + vAt' ho x) = vAt' lo y * e + vAt' lo y * vAt' ho y + vAt' lo y * vAt' ho x := by rw [Int.mul_add, Int.mul_add]
  have h3 : vAt' lo y * (e + vAt' ho y) = vAt' lo y * e + vAt' lo y * vAt' ho y := Int.mul_add _ _ _
  have h4 : vAt' lo x * (e + vAt' ho y + vAt' ho x) = vAt' lo x * e + vAt' lo x * vAt' ho y + vAt' lo x * vAt' ho x := by rw [Int.mul_add, Int.mul_add]
  omega
theorem cost_front {lo ho : List Int} {x : Int} (B : List Int) : ∀ (A : List Int) (e : Int), (∀ y ∈ A, notLess lo ho x y) → costF lo ho e (x :: (A ++ B)) ≤ costF lo ho e (A ++ x :: B)
  | [], e, _ => Int.le_refl _
  | y :: A, e, h => by
    have ih := cost_front B A (e + vAt' ho y) fun z hz => h z (List.mem_cons_of_mem _ hz)
    have hs := cost_swap (h y (by simp)) e (A ++ B)
    have : costF lo ho e (y :: x :: (A ++ B)) ≤ costF lo ho e (y :: (A ++ x :: B)) := by
      rw [costF]
      rw [show costF lo ho e (y :: (A ++ x :: B)) = vAt' lo y * (e + vAt' ho y) + costF lo ho (e + vAt' ho y) (A ++ x :: B) from rfl]
      omega
    exact Int.le_trans hs this
/-- a sorted order loses least -/
theorem cost_sorted {lo ho : List Int} : ∀ (s a : List Int) (e : Int), s.Pairwise (notLess lo ho) → s.Perm a → costF lo ho e s ≤ costF lo ho e a
  | [], a, e, _, h => by rw [List.nil_perm.1 h]; exact Int.le_refl _
  | x :: s, a, e, hs, h => by
    rw [List.pairwise_cons] at hs
    have hx : x ∈ a := h.mem_iff.1 (by simp)
    obtain ⟨A, B, rfl⟩ := List.append_of_mem hx
    have hp : s.Perm (A ++ B) := by
      have := h.trans List.perm_middle
      exact (List.perm_cons x).1 this
    have h1 := cost_front B A e fun y hy => hs.1 y (hp.mem_iff.2 (by simp [hy]))
    have h2 := cost_sorted s (A ++ B) (e + vAt' ho x) hs.2 hp
    have : costF lo ho e (x :: s) ≤ costF lo ho e (x :: (A ++ B)) := by
      rw [costF, costF]
      omega
    exact Int.le_trans this h1
theorem notLess_trans {lo ho : List Int} {x y z : Int} (hx : 0 ≤ vAt' ho x) (hy : 0 < vAt' ho y) (hz : 0 ≤ vAt' ho z) (h1 : notLess lo ho x y) (h2 : notLess lo ho y z) : notLess lo ho x z := by
  unfold notLess at *
  have a1 : vAt' lo z * vAt' ho y * vAt' ho x ≤ vAt' lo y * vAt' ho z * vAt' ho x := Int.mul_le_mul_of_nonneg_right h2 hx
  have a2 : vAt' lo y * vAt' ho x * vAt' ho z ≤ vAt' lo x * vAt' ho y * vAt' ho z := Int.mul_le_mul_of_nonneg_right h1 hz
  have e1 : vAt' lo y * vAt' ho z * vAt' ho x = vAt' lo y * vAt' ho x * vAt' ho z := Int.mul_right_comm _ _ _
  have e2 : vAt' lo z * vAt' ho y * vAt' ho x = vAt' lo z * vAt' ho x * vAt' ho y := Int.mul_right_comm _ _ _
  have e3 : vAt' lo x * vAt' ho y * vAt' ho z = vAt' lo x * vAt' ho z * vAt' ho y := Int.mul_right_comm _ _ _
  have : vAt' lo z * vAt' ho x * vAt' ho y ≤ vAt' lo x * vAt' ho z * vAt' ho y := by omega
  exact Int.le_of_mul_le_mul_right this hy
theorem posI_behind {lt : Int → Int → Bool} {L : List Int} {x : Int} : ∀ {k j}, posI lt L x k ≤ j → j < k → lt x (L.getD j 0) = true
  | 0, j, _, h => absurd h (Nat.not_lt_zero _)
  | k + 1, j, h1, h2 => by
    rw [posI] at h1
    split at h1
    · rename_i h
      rcases Nat.lt_or_ge j k with hj | hj
      · exact posI_behind h1 hj
      · obtain rfl : j = k := by omega
        exact h
    · omega
theorem posI_ahead {lt : Int → Int → Bool} {L : List Int} {x : Int} : ∀ {k}, 0 < posI lt L x k → lt x (L.getD (posI lt L x k - 1) 0) = false
  | 0, h => absurd h (Nat.lt_irrefl _)
  | k + 1, h => by
    rw [posI] at h ⊢
    split
    · rename_i hc
      rw [if_pos hc] at h
      exact posI_ahead h
    · rename_i hc
      simpa using hc
/-- the numbers' values are good ones -/
structure RepAt (lo ho : List Int) : Prop where
  n : lo.length ≤ 10
  e : ho.length = lo.length
  v : ∀ i, i < lo.length → (0 ≤ lo.getD i 0 ∧ lo.getD i 0 ≤ 1000000) ∧ (1 ≤ ho.getD i 0 ∧ ho.getD i 0 ≤ 100)
theorem ordI_rng {lt : Int → Int → Bool} {n : Nat} {x : Int} (h : x ∈ ordI lt n) : 0 ≤ x ∧ x < n := by
  obtain ⟨j, rfl, hj⟩ := ordI_mem lt n x h
  omega
theorem ordI_sorted {lo ho : List Int} (h : RepAt lo ho) : ∀ i, i ≤ lo.length → (ordI (rp lo ho) i).Pairwise (notLess lo ho)
  | 0, _ => List.Pairwise.nil
  | i + 1, hi => by
    have ih := ordI_sorted h i (by omega)
    have hl := ordI_length (rp lo ho) i
    have hpos : ∀ x : Int, 0 ≤ x → x < (lo.length : Int) → 0 < vAt' ho x := fun x h1 h2 => by
      have := (h.v x.toNat (by omega)).2
      unfold vAt'
      omega
    have hmem : ∀ y ∈ ordI (rp lo ho) i, 0 < vAt' ho y := fun y hy => by
      have := ordI_rng hy
      exact hpos y this.1 (by omega)
    have hxi : 0 < vAt' ho (i : Int) := hpos _ (by omega) (by omega)
    rw [ordI, insI]
    obtain ⟨p, hp⟩ : ∃ p, posI (rp lo ho) (ordI (rp lo ho) i) (i : Int) (ordI (rp lo ho) i).length = p := ⟨_, rfl⟩
    have hple : p ≤ (ordI (rp lo ho) i).length := hp ▸ posI_le _ _ _ _
    have hbeh : ∀ j, p ≤ j → j < (ordI (rp lo ho) i).length → rp lo ho (i : Int) ((ordI (rp lo ho) i).getD j 0) = true := fun j h1 h2 => posI_behind (by rw [hp]; exact h1) h2
    have hah : 0 < p → rp lo ho (i : Int) ((ordI (rp lo ho) i).getD (p - 1) 0) = false := fun h1 => by
      have := posI_ahead (lt := rp lo ho) (L := ordI (rp lo ho) i) (x := (i : Int)) (k := (ordI (rp lo ho) i).length) (by rw [hp]; exact h1)
      rwa [hp] at this
    rw [hp]
    generalize ordI (rp lo ho) i = L at *
    rw [List.pairwise_append]
    have hL := ih
    rw [← List.take_append_drop p L, List.pairwise_append] at hL
    have hdrop : ∀ z ∈ L.drop p, notLess lo ho (i : Int) z := fun z hz => by
      obtain ⟨j, hj, rfl⟩ := List.getElem_of_mem hz
      rw [List.getElem_drop]
      rw [List.length_drop] at hj
      have := hbeh (p + j) (by omega) (by omega)
      rw [List.getD_eq_getElem?_getD, List.getElem?_eq_getElem (by omega)] at this
      have := of_decide_eq_true this
      unfold notLess
      simp only [Option.getD_some] at this
      omega
    have htake : ∀ z ∈ L.take p, notLess lo ho z (i : Int) := fun z hz => by
      obtain ⟨j, hj, rfl⟩ := List.getElem_of_mem hz
      rw [List.length_take] at hj
      rw [List.getElem_take]
      have hp0 : 0 < p := by omega
      have hy : p - 1 < L.length := by omega
      have h1 := of_decide_eq_false (hah hp0)
      rw [List.getD_eq_getElem?_getD, List.getElem?_eq_getElem hy] at h1
      simp only [Option.getD_some] at h1
      have h2 : notLess lo ho (L[p - 1]) (i : Int) := by unfold notLess; omega
      rcases Nat.lt_or_ge j (p - 1) with hj2 | hj2
      · have h3 := List.pairwise_iff_getElem.1 ih j (p - 1) (by omega) hy hj2
        exact notLess_trans (Int.le_of_lt (hmem _ (List.getElem_mem _))) (hmem _ (List.getElem_mem _)) (Int.le_of_lt hxi) h3 h2
      · obtain rfl : j = p - 1 := by omega
        exact h2
    refine ⟨hL.1, List.pairwise_cons.2 ⟨hdrop, hL.2.1⟩, fun z hz w hw => ?_⟩
    rcases List.mem_cons.1 hw with rfl | hw
    · exact htake z hz
    · exact hL.2.2 z hz w hw
theorem ordI_nodup {lt : Int → Int → Bool} : ∀ i, (ordI lt i).Nodup
  | 0 => List.Pairwise.nil
  | i + 1 => by
    have ih := ordI_nodup (lt := lt) i
    rw [ordI, insI]
    have hp : ((ordI lt i).take (posI lt (ordI lt i) i (ordI lt i).length) ++ (i : Int) :: (ordI lt i).drop (posI lt (ordI lt i) i (ordI lt i).length)).Perm ((i : Int) :: ordI lt i) := by
      have := List.perm_middle (a := (i : Int)) (l₁ := (ordI lt i).take (posI lt (ordI lt i) i (ordI lt i).length)) (l₂ := (ordI lt i).drop (posI lt (ordI lt i) i (ordI lt i).length))
      rwa [List.take_append_drop] at this
    rw [hp.nodup_iff, List.nodup_cons]
    refine ⟨fun hm => ?_, ih⟩
    have := (ordI_rng hm).2
    omega
theorem perm_of_sub' : ∀ {a b : List Int}, a.Nodup → (∀ x ∈ a, x ∈ b) → b.length ≤ a.length → a.Perm b
  | [], b, _, _, hl => by
    have : b = [] := List.length_eq_zero_iff.1 (by simpa using hl)
    rw [this]
  | x :: a, b, hn, hs, hl => by
    rw [List.nodup_cons] at hn
    obtain ⟨A, B, rfl⟩ := List.append_of_mem (hs x (by simp))
    have h1 : a.Perm (A ++ B) := perm_of_sub' hn.2 (fun y hy => by
      have := hs y (List.mem_cons_of_mem _ hy)
      rcases List.mem_append.1 this with h | h
      · exact List.mem_append.2 (.inl h)
      · rcases List.mem_cons.1 h with h | h
        · subst h; exact absurd hy hn.1
        · exact List.mem_append.2 (.inr h)) (by simp at hl ⊢; omega)
    exact (h1.cons x).trans List.perm_middle.symm
/-- an order, of n numbers -/
structure OrdV (n : Nat) (a : List Int) : Prop where
  l : a.length = n
  r : ∀ k, k < n → (0 ≤ a.getD k 0 ∧ a.getD k 0 < n) ∧ a.getD k 0 ∉ a.take k
theorem OrdV.nodup {n : Nat} {a : List Int} (h : OrdV n a) : a.Nodup := by
  refine List.pairwise_iff_getElem.2 fun i j hi hj hij e => ?_
  have := (h.r j (by rw [← h.l]; exact hj)).2
  apply this
  rw [List.getD_eq_getElem?_getD, List.getElem?_eq_getElem hj]
  simp only [Option.getD_some]
  rw [← e]
  have : a[i] = (a.take j)[i]'(by rw [List.length_take]; omega) := by rw [List.getElem_take]
  rw [this]
  exact List.getElem_mem _
theorem ordI_ordV (lt : Int → Int → Bool) (n : Nat) : OrdV n (ordI lt n) := by
  refine ⟨ordI_length lt n, fun k hk => ?_⟩
  have hl := ordI_length lt n
  have hk' : k < (ordI lt n).length := by omega
  have g : (ordI lt n).getD k 0 = (ordI lt n)[k] := by rw [List.getD_eq_getElem?_getD, List.getElem?_eq_getElem hk']; rfl
  refine ⟨by rw [g]; exact ordI_rng (List.getElem_mem _), fun hm => ?_⟩
  rw [g] at hm
  obtain ⟨j, hj, e⟩ := List.getElem_of_mem hm
  rw [List.length_take] at hj
  rw [List.getElem_take] at e
  exact List.pairwise_iff_getElem.1 (ordI_nodup (lt := lt) n) j k (by omega) hk' (by omega) e
theorem repair_least {lo ho : List Int} (h : RepAt lo ho) {a : List Int} (ha : OrdV lo.length a) : (lostTo lo ho (ordI (rp lo ho) lo.length) (ordI (rp lo ho) lo.length).length).1 ≤ (lostTo lo ho a a.length).1 := by
  rw [lost_cost, lost_cost]
  refine cost_sorted _ _ _ (ordI_sorted h _ (Nat.le_refl _)) ?_
  have ho' := ordI_length (rp lo ho) lo.length
  refine perm_of_sub' (ordI_nodup _) (fun x hx => ?_) (by rw [ha.l, ho']; exact Nat.le_refl _)
  -- x is one of a's
  have hr := ordI_rng hx
  refine Classical.byContradiction fun hno => ?_
  have hp := perm_of_sub' (a := x :: a) (b := ordI (rp lo ho) lo.length) (List.nodup_cons.2 ⟨hno, ha.nodup⟩) (fun y hy => ?_) (by rw [ho', List.length_cons, ha.l]; omega)
  · have := hp.length_eq
    rw [ho', List.length_cons, ha.l] at this
    omega
  · -- all numbers below n are there
    have all : ∀ z : Int, 0 ≤ z → z < (lo.length : Int) → z ∈ ordI (rp lo ho) lo.length := fun z h1 h2 => ordI_all _ z h1 h2
    rcases List.mem_cons.1 hy with rfl | hy
    · exact hx
    · obtain ⟨i, hi, rfl⟩ := List.getElem_of_mem hy
      have := (ha.r i (by rw [← ha.l]; exact hi)).1
      rw [List.getD_eq_getElem?_getD, List.getElem?_eq_getElem hi] at this
      exact all _ this.1 this.2
where
  ordI_all : ∀ (n : Nat) (z : Int), 0 ≤ z → z < (n : Int) → z ∈ ordI (rp lo ho) n
    | 0, z, h1, h2 => by omega
    | n + 1, z, h1, h2 => by
      rw [ordI, insI]
      rcases Int.lt_or_le z (n : Int) with h | h
      · have := ordI_all n z h1 h
        rw [← List.take_append_drop (posI (rp lo ho) (ordI (rp lo ho) n) n (ordI (rp lo ho) n).length) (ordI (rp lo ho) n)] at this
        rcases List.mem_append.1 this with h3 | h3
        · exact List.mem_append.2 (.inl h3)
        · exact List.mem_append.2 (.inr (List.mem_cons_of_mem _ h3))
      · have : z = (n : Int) := by omega
        subst this
        exact List.mem_append.2 (.inr (by simp))
end Go.Proofs.Yteojpgmclplggaa
/- Repairs: what is lost until all are done, and the order of repairs. -/
namespace Go.Proofs.Yteojpgmclplggaa
open Go.Am
set_option linter.unusedVariables false
set_option linter.unusedSimpArgs false
set_option maxRecDepth 100000
set_option maxHeartbeats 4000000
theorem IdS.takeI {H : Heap} {t o : Nat} {l : List Int} (h : IdS H t o l) (k : Nat) : IdS H t o (l.take k) :=
  ⟨h.lt, fun j hj => by
    rw [List.length_take] at hj
    rw [h.cs j (by omega)]
    congr 3
    rw [List.getD_eq_getElem?_getD, List.getD_eq_getElem?_getD, List.getElem?_take_of_lt (by omega)]⟩
theorem IdS.dropI {H : Heap} {t : Nat} {l : List Int} (h : Sl nmE H t l) (o : Nat) : IdS H t o (l.drop o) :=
  ⟨h.lt, fun j hj => by
    rw [List.length_drop] at hj
    rw [h.one (g := fun n => Value.int .i64 n) 0 (o + j) (by omega)]
    congr 3
    rw [List.getD_eq_getElem?_getD, List.getD_eq_getElem?_getD, List.getElem?_drop]⟩
def repOkI (lo ho : List Int) (i : Nat) : Bool := inB (lo.getD i 0) 0 1000000 && inB (ho.getD i 0) 1 100
def repTo (lo ho : List Int) (k : Nat) : Prop := ∀ i, i < k → repOkI lo ho i = true
instance (lo ho : List Int) (k : Nat) : Decidable (repTo lo ho k) := inferInstanceAs (Decidable (∀ i, i < k → _))
def repB (lo ho : List Int) : Bool := (decide (lo.length ≤ 10) && decide (ho.length = lo.length)) && decide (repTo lo ho lo.length)
theorem repB_at {lo ho : List Int} (h : repB lo ho = true) : RepAt lo ho := by
  simp only [repB, Bool.and_eq_true, decide_eq_true_eq] at h
  refine ⟨h.1.1, h.1.2, fun i hi => ?_⟩
  have := h.2 i hi
  simp only [repOkI, Bool.and_eq_true, inB_iff] at this
  exact this
theorem repTo.next {lo ho : List Int} {k : Nat} (h : repTo lo ho k) (h1 : repOkI lo ho k = true) : repTo lo ho (k + 1) := fun i hi => by
  rcases Nat.lt_or_ge i k with h' | h'
  · exact h i h'
  · obtain rfl : i = k := by omega
    exact h1
theorem repB_no {lo ho : List Int} {k : Nat} (hk : k < lo.length) (h : repOkI lo ho k = false) : repB lo ho = false := by
  unfold repB
  rw [decide_eq_false (p := repTo lo ho lo.length) (fun hh => by rw [hh k hk] at h; cases h), Bool.and_false]
theorem repB_len {lo ho : List Int} (h : ¬ (lo.length ≤ 10 ∧ ho.length = lo.length)) : repB lo ho = false := by
  unfold repB
  by_cases h1 : lo.length ≤ 10
  · rw [decide_eq_false (p := ho.length = lo.length) (fun h2 => h ⟨h1, h2⟩)]; simp
  · rw [decide_eq_false h1]; simp
theorem repB_yes {lo ho : List Int} (h1 : lo.length ≤ 10) (h2 : ho.length = lo.length) (h3 : repTo lo ho lo.length) : repB lo ho = true := by
  unfold repB
  rw [decide_eq_true h1, decide_eq_true h2, decide_eq_true h3]; rfl
theorem areRepairs_A (lo ho : List Int) (hl : lo.length ≤ 1048577) (hh : ho.length ≤ 1048577) (c d : Nat) (H : Heap) (t u : Nat) (hS : Sl nmE H t lo) (hU : Sl nmE H u ho) :
    AFunC Try.prog 31 [.slice (some ⟨t, 0, none⟩) lo.length c, .slice (some ⟨u, 0, none⟩) ho.length d] H (.bool (repB lo ho)) H := by
  refine AFunC.of_body Try.func31 (by kernel_rfl) rfl (by kernel_rfl) (by simp [Try.ntmps31]) ?_
  have ht := hS.lt
  have hu := hU.lt
  have cs := fun k hk => hS.one (g := fun n => Value.int .i64 n) 0 k hk
  have cu := fun k hk => hU.one (g := fun n => Value.int .i64 n) 0 k hk
  by_cases h1 : lo.length ≤ 10
  rotate_left
  · have h1i : (10 : Int) < (lo.length : Int) := by omega
    have h1n : 10 < lo.length := by omega
    simp -dsimp -implicitDefEqProofs (disch := omega) [go_sem, -List.getD_eq_getElem?_getD, ite_yes, h1i, h1n]
    exact fin_flat0 rfl (by rw [repB_len (fun h => h1 h.1)])
  have h1i : ¬ (10 : Int) < (lo.length : Int) := by omega
  have h1n : ¬ 10 < lo.length := by omega
  by_cases h2 : ho.length = lo.length
  rotate_left
  · have h2i : ¬ (ho.length : Int) = (lo.length : Int) := by omega
    simp -dsimp -implicitDefEqProofs (disch := omega) [go_sem, -List.getD_eq_getElem?_getD, ite_yes, h1i, h1n, h2i, h2]
    exact fin_flat0 rfl (by rw [repB_len (fun h => h2 h.2)])
  have h2i : (ho.length : Int) = (lo.length : Int) := by omega
  simp -dsimp -implicitDefEqProofs (disch := omega) [go_sem, -List.getD_eq_getElem?_getD, ite_yes, h1i, h1n, h2i, h2]
  refine ALoop.intro (ι := Nat) (fun k => k ≤ lo.length ∧ repTo lo ho k) (fun k => [(1, .slice (some ⟨u, 0, none⟩) lo.length d), (17, .slice (some ⟨t, 0, none⟩) lo.length c), (18, .int .i64 lo.length), (19, .int .i64 k)]) (fun _ => H) (fun k => lo.length - k) 0 ⟨by omega, fun i hi => by omega⟩ ?_ ?_
  · exact weakS_same (by simp -dsimp -implicitDefEqProofs (disch := omega) [go_sem, -List.getD_eq_getElem?_getD, ite_yes, ht, hu, h2])
  rintro k ⟨hk, hf⟩
  by_cases hlt : k < lo.length
  rotate_left
  · obtain rfl : k = lo.length := by omega
    simp -dsimp -implicitDefEqProofs (disch := omega) [go_sem, -List.getD_eq_getElem?_getD, ite_yes, hlt]
    exact fin_flat0 rfl (by rw [repB_yes h1 h2 hf])
  have hlti : (k : Int) < (lo.length : Int) := by omega
  have c1 := cs k hlt
  have c2 := cu k (by omega)
  simp -dsimp -implicitDefEqProofs (disch := omega) [go_sem, -List.getD_eq_getElem?_getD, ite_yes, hlt, hlti, c1, c2, ht, hu]
  refine ACall.of (isLeakFlow_A _ _) ?_
  cases e1 : inB (lo.getD k 0) 0 1000000
  · simp -dsimp -implicitDefEqProofs (disch := omega) [go_sem, -List.getD_eq_getElem?_getD, ite_yes]
    exact fin_flat0 rfl (by rw [repB_no hlt (by rw [repOkI, e1]; rfl)])
  simp -dsimp -implicitDefEqProofs (disch := omega) [go_sem, -List.getD_eq_getElem?_getD, ite_yes, hlt, hlti, c1, c2, ht, hu, h2]
  refine ACall.of (inside_A _ _ _ _) ?_
  cases e2 : inB (ho.getD k 0) 1 100
  · simp -dsimp -implicitDefEqProofs (disch := omega) [go_sem, -List.getD_eq_getElem?_getD, ite_yes]
    exact fin_flat0 rfl (by rw [repB_no hlt (by rw [repOkI, e1, e2]; rfl)])
  simp -dsimp -implicitDefEqProofs (disch := omega) [go_sem, -List.getD_eq_getElem?_getD, ite_yes]
  exact LoopEnd.of (k + 1) ⟨by omega, hf.next (by rw [repOkI, e1, e2]; rfl)⟩ (by omega) (weakS_same (by simp -dsimp -implicitDefEqProofs (disch := omega) [go_sem, -List.getD_eq_getElem?_getD, ite_yes, ht, hu]))
theorem l17Repairs_A (lo ho : List Int) (hl : lo.length ≤ 1048577) (hh : ho.length ≤ 1048577) (c d : Nat) (H : Heap) (t u : Nat) (hS : Sl nmE H t lo) (hU : Sl nmE H u ho) :
    AFunC Try.prog 33 [.slice (some ⟨t, 0, none⟩) lo.length c, .slice (some ⟨u, 0, none⟩) ho.length d] H (.bool (repB lo ho)) H := by
  refine AFunC.of_body Try.func33 (by kernel_rfl) rfl (by kernel_rfl) (by simp [Try.ntmps33]) ?_
  have ht := hS.lt
  have hu := hU.lt
  have cs := fun k hk => hS.one (g := fun n => Value.int .i64 n) 0 k hk
  have cu := fun k hk => hU.one (g := fun n => Value.int .i64 n) 0 k hk
  by_cases h2 : ho.length = lo.length
  rotate_left
  · have h2i : ¬ (lo.length : Int) = (ho.length : Int) := by omega
    simp -dsimp -implicitDefEqProofs (disch := omega) [go_sem, -List.getD_eq_getElem?_getD, ite_yes, h2i]
    exact fin_flat0 rfl (by rw [repB_len (fun h => h2 h.2)])
  by_cases h1 : lo.length ≤ 10
  rotate_left
  · have h1i : (10 : Int) < (lo.length : Int) := by omega
    have h1n : 10 < lo.length := by omega
    simp -dsimp -implicitDefEqProofs (disch := omega) [go_sem, -List.getD_eq_getElem?_getD, ite_yes, h1i, h1n, h2]
    exact fin_flat0 rfl (by rw [repB_len (fun h => h1 h.1)])
  have h1i : ¬ (10 : Int) < (lo.length : Int) := by omega
  have h1n : ¬ 10 < lo.length := by omega
  simp -dsimp -implicitDefEqProofs (disch := omega) [go_sem, -List.getD_eq_getElem?_getD, ite_yes, h1i, h1n, h2]
  refine ALoop.intro (ι := Nat) (fun k => k ≤ lo.length ∧ repTo lo ho k) (fun k => [(0, .slice (some ⟨t, 0, none⟩) lo.length c), (1, .slice (some ⟨u, 0, none⟩) lo.length d), (5, .int .i64 k)]) (fun _ => H) (fun k => lo.length - k) 0 ⟨by omega, fun i hi => by omega⟩ ?_ ?_
  · exact weakS_same (by simp -dsimp -implicitDefEqProofs (disch := omega) [go_sem, -List.getD_eq_getElem?_getD, ite_yes, ht, hu, h2])
  rintro k ⟨hk, hf⟩
  by_cases hlt : k < lo.length
  rotate_left
  · obtain rfl : k = lo.length := by omega
    simp -dsimp -implicitDefEqProofs (disch := omega) [go_sem, -List.getD_eq_getElem?_getD, ite_yes, hlt]
    exact fin_flat0 rfl (by rw [repB_yes h1 h2 hf])
  have hlti : (k : Int) < (lo.length : Int) := by omega
  have c1 := cs k hlt
  have c2 := cu k (by omega)
  simp -dsimp -implicitDefEqProofs (disch := omega) [go_sem, -List.getD_eq_getElem?_getD, ite_yes, hlt, hlti, c1, c2, ht, hu]
  refine ACall.of (l17Flow_A _ _) ?_
  cases e1 : inB (lo.getD k 0) 0 1000000
  · simp -dsimp -implicitDefEqProofs (disch := omega) [go_sem, -List.getD_eq_getElem?_getD, ite_yes]
    exact fin_flat0 rfl (by rw [repB_no hlt (by rw [repOkI, e1]; rfl)])
  simp -dsimp -implicitDefEqProofs (disch := omega) [go_sem, -List.getD_eq_getElem?_getD, ite_yes, hlt, hlti, c1, c2, ht, hu, h2]
  refine ACall.of (l1In_A _ _ _ _) ?_
  cases e2 : inB (ho.getD k 0) 1 100
  · simp -dsimp -implicitDefEqProofs (disch := omega) [go_sem, -List.getD_eq_getElem?_getD, ite_yes]
    exact fin_flat0 rfl (by rw [repB_no hlt (by rw [repOkI, e1, e2]; rfl)])
  simp -dsimp -implicitDefEqProofs (disch := omega) [go_sem, -List.getD_eq_getElem?_getD, ite_yes]
  exact LoopEnd.of (k + 1) ⟨by omega, hf.next (by rw [repOkI, e1, e2]; rfl)⟩ (by omega) (weakS_same (by simp -dsimp -implicitDefEqProofs (disch := omega) [go_sem, -List.getD_eq_getElem?_getD, ite_yes, ht, hu]))
def ordIx (n : Nat) (a : List Int) (k : Nat) : Bool := inB (a.getD k 0) 0 ((n : Int) - 1) && !hasI (a.take k) (a.getD k 0)
def ordTo' (n : Nat) (a : List Int) (k : Nat) : Prop := ∀ i, i < k → ordIx n a i = true
instance (n : Nat) (a : List Int) (k : Nat) : Decidable (ordTo' n a k) := inferInstanceAs (Decidable (∀ i, i < k → _))
def lostOk (lo ho a : List Int) : Bool := repB lo ho && (decide (a.length = lo.length) && decide (ordTo' lo.length a a.length))
theorem lostOk_at {lo ho a : List Int} (h : lostOk lo ho a = true) : RepAt lo ho ∧ OrdV lo.length a := by
  simp only [lostOk, Bool.and_eq_true, decide_eq_true_eq] at h
  refine ⟨repB_at h.1, h.2.1, fun k hk => ?_⟩
  have := h.2.2 k (by omega)
  simp only [ordIx, Bool.and_eq_true, inB_iff, Bool.not_eq_true'] at this
  exact ⟨by omega, of_decide_eq_false this.2⟩
theorem lostOk_of {lo ho a : List Int} (h : repB lo ho = true) (ho' : OrdV lo.length a) : lostOk lo ho a = true := by
  unfold lostOk
  rw [h, decide_eq_true ho'.l, Bool.true_and, Bool.true_and]
  refine decide_eq_true fun k hk => ?_
  have := ho'.r k (by rw [← ho'.l]; exact hk)
  unfold ordIx
  rw [inB_iff.2 (by omega), Bool.true_and]
  unfold hasI
  rw [decide_eq_false this.2]; rfl
theorem lostOk_no {lo ho a : List Int} {k : Nat} (hk : k < a.length) (h : ordIx lo.length a k = false) : lostOk lo ho a = false := by
  unfold lostOk
  rw [decide_eq_false (p := ordTo' lo.length a a.length) (fun hh => by rw [hh k hk] at h; cases h)]; simp
theorem ordTo'.next {n : Nat} {a : List Int} {k : Nat} (h : ordTo' n a k) (h1 : ordIx n a k = true) : ordTo' n a (k + 1) := fun i hi => by
  rcases Nat.lt_or_ge i k with h' | h'
  · exact h i h'
  · obtain rfl : i = k := by omega
    exact h1
theorem lostTo_rng {lo ho a : List Int} (h : RepAt lo ho) : ∀ k, ordTo' lo.length a k → (0 ≤ (lostTo lo ho a k).1 ∧ (lostTo lo ho a k).1 ≤ 1000000000 * (k : Int) * (k : Int)) ∧ 0 ≤ (lostTo lo ho a k).2 ∧ (lostTo lo ho a k).2 ≤ 100 * (k : Int)
  | 0, _ => by simp [lostTo]
  | k + 1, hk => by
    obtain ⟨⟨i1, i2⟩, i3, i4⟩ := lostTo_rng h k fun i hi => hk i (by omega)
    have hx := hk k (by omega)
    simp only [ordIx, Bool.and_eq_true, inB_iff] at hx
    have hv := h.v (a.getD k 0).toNat (by omega)
    simp only [lostTo, vAt']
    generalize lo.getD (a.getD k 0).toNat 0 = x at *
    generalize ho.getD (a.getD k 0).toNat 0 = y at *
    generalize (lostTo lo ho a k).2 = e at *
    generalize (lostTo lo ho a k).1 = s at *
    have h1 : 0 ≤ x * (e + y) := Int.mul_nonneg hv.1.1 (by omega)
    have h2 : x * (e + y) ≤ 1000000 * (e + y) := Int.mul_le_mul_of_nonneg_right hv.1.2 (by omega)
    have h3 : 1000000 * (e + y) ≤ 1000000 * (100 * ((k : Int) + 1)) := Int.mul_le_mul_of_nonneg_left (by omega) (by omega)
    have h4 : (1000000000 : Int) * ((k : Int) + 1) * ((k : Int) + 1) = 1000000000 * (k : Int) * (k : Int) + 1000000000 * (2 * (k : Int) + 1) := by
      have : ((k : Int) + 1) * ((k : Int) + 1) = (k : Int) * (k : Int) + (2 * (k : Int) + 1) := by
        rw [Int.add_mul, Int.mul_add]; omega
      rw [Int.mul_assoc, this, Int.mul_add, ← Int.mul_assoc]
    refine ⟨⟨by omega, ?_⟩, by omega, by omega⟩
    rw [show ((k + 1 : Nat) : Int) = (k : Int) + 1 by omega, h4]
    omega
def lostV (b : Bool) (w : Int) : Value := if b then .tuple #[.int .i64 w, .bool true] else .tuple #[.int .i64 0, .bool false]
theorem iLost_A (lo ho a : List Int) (hl : lo.length ≤ 1048577) (hh : ho.length ≤ 1048577) (ha : a.length ≤ 1048577) (c d e : Nat) (H : Heap) (t u w : Nat) (hS : Sl nmE H t lo) (hU : Sl nmE H u ho) (o : Nat) (hW : IdS H w o a) :
    AFunC Try.prog 9 [.slice (some ⟨t, 0, none⟩) lo.length c, .slice (some ⟨u, 0, none⟩) ho.length d, .slice (some ⟨w, o, none⟩) a.length e] H (lostV (lostOk lo ho a) (lostTo lo ho a a.length).1) H := by
  refine AFunC.of_body Try.func9 (by kernel_rfl) rfl (by kernel_rfl) (by simp [Try.ntmps9]) ?_
  have ht := hS.lt
  have hu := hU.lt
  have hw := hW.lt
  have cs := fun k hk => hS.one (g := fun n => Value.int .i64 n) 0 k hk
  have cu := fun k hk => hU.one (g := fun n => Value.int .i64 n) 0 k hk
  have cw := hW.cs
  simp -dsimp -implicitDefEqProofs (disch := omega) [go_sem, -List.getD_eq_getElem?_getD, ite_yes]
  refine ACall.of (areRepairs_A lo ho hl hh c d _ t u hS hU) ?_
  cases hr : repB lo ho
  · simp -dsimp -implicitDefEqProofs (disch := omega) [go_sem, -List.getD_eq_getElem?_getD, ite_yes]
    exact fin_flat0 (by unfold lostV; split <;> rfl) (by rw [lostOk, hr]; rfl)
  have hR := repB_at hr
  have hn := hR.n
  have hne := hR.e
  by_cases h1 : a.length = lo.length
  rotate_left
  · have h1i : ¬ (a.length : Int) = (lo.length : Int) := by omega
    simp -dsimp -implicitDefEqProofs (disch := omega) [go_sem, -List.getD_eq_getElem?_getD, ite_yes, h1, h1i]
    exact fin_flat0 (by unfold lostV; split <;> rfl) (by rw [lostOk, decide_eq_false h1]; simp [lostV])
  have h1i : (a.length : Int) = (lo.length : Int) := by omega
  simp -dsimp -implicitDefEqProofs (disch := omega) [go_sem, -List.getD_eq_getElem?_getD, ite_yes, h1, h1i]
  refine ALoop.intro (ι := Nat) (fun k => k ≤ a.length ∧ ordTo' lo.length a k) (fun k => [(0, .slice (some ⟨t, 0, none⟩) lo.length c), (1, .slice (some ⟨u, 0, none⟩) ho.length d), (2, .slice (some ⟨w, o, none⟩) a.length e), (8, .int .i64 (lostTo lo ho a k).1), (9, .int .i64 (lostTo lo ho a k).2), (23, .slice (some ⟨w, o, none⟩) a.length e), (24, .int .i64 a.length), (25, .int .i64 k)]) (fun _ => H) (fun k => a.length - k) 0 ⟨by omega, fun i hi => by omega⟩ ?_ ?_
  · exact weakS_same (by simp -dsimp -implicitDefEqProofs (disch := omega) [go_sem, -List.getD_eq_getElem?_getD, ite_yes, ht, hu, hw, h1, lostTo])
  rintro k ⟨hk, hf⟩
  obtain ⟨⟨r1, r2⟩, r3, r4⟩ := lostTo_rng hR k hf
  by_cases hlt : k < a.length
  rotate_left
  · obtain rfl : k = a.length := by omega
    have hok : lostOk lo ho a = true := by unfold lostOk; rw [hr, decide_eq_true h1, decide_eq_true hf]; rfl
    simp -dsimp -implicitDefEqProofs (disch := omega) [go_sem, -List.getD_eq_getElem?_getD, ite_yes, hlt]
    exact fin_flat0 (by unfold lostV; split <;> rfl) (by rw [hok]; rfl)
  have hlti : (k : Int) < (a.length : Int) := by omega
  have hk10 : (k : Int) ≤ 9 := by omega
  have hkk : 1000000000 * (k : Int) * (k : Int) ≤ 1000000000 * 9 * 9 := by
    have h1 : 1000000000 * (k : Int) * (k : Int) ≤ 1000000000 * (k : Int) * 9 := Int.mul_le_mul_of_nonneg_left hk10 (by omega)
    omega
  have c1 := cw k hlt
  have en : lostTo lo ho a (k + 1) = ((lostTo lo ho a k).1 + vAt' lo (a.getD k 0) * ((lostTo lo ho a k).2 + vAt' ho (a.getD k 0)), (lostTo lo ho a k).2 + vAt' ho (a.getD k 0)) := rfl
  have hIx : ordIx lo.length a k = (inB (a.getD k 0) 0 ((lo.length : Int) - 1) && !hasI (a.take k) (a.getD k 0)) := rfl
  generalize a.getD k 0 = x at *
  generalize lostTo lo ho a k = L at *
  simp -dsimp -implicitDefEqProofs (disch := omega) [go_sem, -List.getD_eq_getElem?_getD, ite_yes, hlt, hlti, c1, hw]
  refine ACall.of (inside_A _ _ _ _) ?_
  cases e1 : inB x 0 ((lo.length : Int) - 1)
  · simp -dsimp -implicitDefEqProofs (disch := omega) [go_sem, -List.getD_eq_getElem?_getD, ite_yes]
    exact fin_flat0 (by unfold lostV; split <;> rfl) (by rw [lostOk_no hlt (by rw [hIx, e1]; rfl)]; rfl)
  have hx := inB_iff.1 e1
  obtain ⟨q, rfl⟩ : ∃ q : Nat, x = (q : Int) := ⟨x.toNat, by omega⟩
  have hq : q < lo.length := by omega
  have hqi : (q : Int) < (lo.length : Int) := by omega
  have hq2 : q < ho.length := by omega
  have hq2i : (q : Int) < (ho.length : Int) := by omega
  have hki : (k : Int) ≤ (a.length : Int) := by omega
  have htl : (a.take k).length = k := List.length_take_of_le hk
  have A := containsNm_A (a.take k) (q : Int) (by omega) k H w o (hW.takeI k)
  rw [htl] at A
  simp -dsimp -implicitDefEqProofs (disch := omega) [go_sem, -List.getD_eq_getElem?_getD, ite_yes, hlt, hlti, c1, hw, hk, hki]
  refine ACall.of A ?_
  cases e2 : hasI (a.take k) (q : Int)
  rotate_left
  · simp -dsimp -implicitDefEqProofs (disch := omega) [go_sem, -List.getD_eq_getElem?_getD, ite_yes]
    exact fin_flat0 (by unfold lostV; split <;> rfl) (by rw [lostOk_no hlt (by rw [hIx, e1, e2]; rfl)]; rfl)
  have g1 := cs q hq
  have g2 := cu q hq2
  have hv := hR.v q hq
  have v1 : vAt' lo (q : Int) = lo.getD q 0 := by simp [vAt']
  have v2 : vAt' ho (q : Int) = ho.getD q 0 := by simp [vAt']
  rw [v1, v2] at en
  generalize lo.getD q 0 = y at *
  generalize ho.getD q 0 = z at *
  have m1 : 0 ≤ y * (L.2 + z) := Int.mul_nonneg hv.1.1 (by omega)
  have m2 : y * (L.2 + z) ≤ 1000000 * (L.2 + z) := Int.mul_le_mul_of_nonneg_right hv.1.2 (by omega)
  simp -dsimp -implicitDefEqProofs (disch := omega) [go_sem, -List.getD_eq_getElem?_getD, ite_yes, hq, hqi, hq2, hq2i, g1, g2, ht, hu]
  exact LoopEnd.of (k + 1) ⟨by omega, hf.next (by rw [hIx, e1, e2]; rfl)⟩ (by omega) (weakS_same (by simp -dsimp -implicitDefEqProofs (disch := omega) [go_sem, -List.getD_eq_getElem?_getD, ite_yes, ht, hu, hw, en]))
theorem sLost_A (lo ho a : List Int) (hl : lo.length ≤ 1048577) (hh : ho.length ≤ 1048577) (ha : a.length ≤ 1048577) (c d e : Nat) (H : Heap) (t u w : Nat) (hS : Sl nmE H t lo) (hU : Sl nmE H u ho) (o : Nat) (hW : IdS H w o a) :
    AFunC Try.prog 10 [.slice (some ⟨t, 0, none⟩) lo.length c, .slice (some ⟨u, 0, none⟩) ho.length d, .slice (some ⟨w, o, none⟩) a.length e] H (lostV (lostOk lo ho a) (lostTo lo ho a a.length).1) H := by
  refine AFunC.of_body Try.func10 (by kernel_rfl) rfl (by kernel_rfl) (by simp [Try.ntmps10]) ?_
  have ht := hS.lt
  have hu := hU.lt
  have hw := hW.lt
  have cs := fun k hk => hS.one (g := fun n => Value.int .i64 n) 0 k hk
  have cu := fun k hk => hU.one (g := fun n => Value.int .i64 n) 0 k hk
  have cw := hW.cs
  simp -dsimp -implicitDefEqProofs (disch := omega) [go_sem, -List.getD_eq_getElem?_getD, ite_yes]
  refine ACall.of (l17Repairs_A lo ho hl hh c d _ t u hS hU) ?_
  cases hr : repB lo ho
  · simp -dsimp -implicitDefEqProofs (disch := omega) [go_sem, -List.getD_eq_getElem?_getD, ite_yes]
    exact fin_flat0 (by unfold lostV; split <;> rfl) (by rw [lostOk, hr]; rfl)
  have hR := repB_at hr
  have hn := hR.n
  have hne := hR.e
  by_cases h1 : a.length = lo.length
  rotate_left
  · have h1i : ¬ (a.length : Int) = (lo.length : Int) := by omega
    simp -dsimp -implicitDefEqProofs (disch := omega) [go_sem, -List.getD_eq_getElem?_getD, ite_yes, h1, h1i]
    exact fin_flat0 (by unfold lostV; split <;> rfl) (by rw [lostOk, decide_eq_false h1]; simp [lostV])
  have h1i : (a.length : Int) = (lo.length : Int) := by omega
  simp -dsimp -implicitDefEqProofs (disch := omega) [go_sem, -List.getD_eq_getElem?_getD, ite_yes, h1, h1i]
  refine ALoop.intro (ι := Nat) (fun k => k ≤ a.length ∧ ordTo' lo.length a k) (fun k => [(0, .slice (some ⟨t, 0, none⟩) lo.length c), (1, .slice (some ⟨u, 0, none⟩) ho.length d), (2, .slice (some ⟨w, o, none⟩) a.length e), (8, .int .i64 (lostTo lo ho a k).1), (9, .int .i64 (lostTo lo ho a k).2), (10, .int .i64 k)]) (fun _ => H) (fun k => a.length - k) 0 ⟨by omega, fun i hi => by omega⟩ ?_ ?_
  · exact weakS_same (by simp -dsimp -implicitDefEqProofs (disch := omega) [go_sem, -List.getD_eq_getElem?_getD, ite_yes, ht, hu, hw, h1, lostTo])
  rintro k ⟨hk, hf⟩
  obtain ⟨⟨r1, r2⟩, r3, r4⟩ := lostTo_rng hR k hf
  by_cases hlt : k < a.length
  rotate_left
  · obtain rfl : k = a.length := by omega
    have hok : lostOk lo ho a = true := by unfold lostOk; rw [hr, decide_eq_true h1, decide_eq_true hf]; rfl
    simp -dsimp -implicitDefEqProofs (disch := omega) [go_sem, -List.getD_eq_getElem?_getD, ite_yes, hlt]
    exact fin_flat0 (by unfold lostV; split <;> rfl) (by rw [hok]; rfl)
  have hlti : (k : Int) < (a.length : Int) := by omega
  have hk10 : (k : Int) ≤ 9 := by omega
  have hkk : 1000000000 * (k : Int) * (k : Int) ≤ 1000000000 * 9 * 9 := by
    have h1 : 1000000000 * (k : Int) * (k : Int) ≤ 1000000000 * (k : Int) * 9 := Int.mul_le_mul_of_nonneg_left hk10 (by omega)
    omega
  have c1 := cw k hlt
  have en : lostTo lo ho a (k + 1) = ((lostTo lo ho a k).1 + vAt' lo (a.getD k 0) * ((lostTo lo ho a k).2 + vAt' ho (a.getD k 0)), (lostTo lo ho a k).2 + vAt' ho (a.getD k 0)) := rfl
  have hIx : ordIx lo.length a k = (inB (a.getD k 0) 0 ((lo.length : Int) - 1) && !hasI (a.take k) (a.getD k 0)) := rfl
  generalize a.getD k 0 = x at *
  generalize lostTo lo ho a k = L at *
  simp -dsimp -implicitDefEqProofs (disch := omega) [go_sem, -List.getD_eq_getElem?_getD, ite_yes, hlt, hlti, c1, hw]
  refine ADraw.quiet (by kernel_rfl) (by kernel_rfl) (by kernel_rfl) ?_
  simp -dsimp -implicitDefEqProofs (disch := omega) [go_sem, -List.getD_eq_getElem?_getD, ite_yes, hlt, hlti, c1, hw]
  refine ACallQ.of (l1In_A _ _ _ _) rfl ?_
  cases e1 : inB x 0 ((lo.length : Int) - 1)
  · simp -dsimp -implicitDefEqProofs (disch := omega) [go_sem, -List.getD_eq_getElem?_getD, ite_yes]
    exact fin_flat0 (by unfold lostV; split <;> rfl) (by rw [lostOk_no hlt (by rw [hIx, e1]; rfl)]; rfl)
  have hx := inB_iff.1 e1
  obtain ⟨q, rfl⟩ : ∃ q : Nat, x = (q : Int) := ⟨x.toNat, by omega⟩
  have hq : q < lo.length := by omega
  have hqi : (q : Int) < (lo.length : Int) := by omega
  have hq2 : q < ho.length := by omega
  have hq2i : (q : Int) < (ho.length : Int) := by omega
  have hki : (k : Int) ≤ (a.length : Int) := by omega
  have htl : (a.take k).length = k := List.length_take_of_le hk
  have A := l1HasO_A (a.take k) (q : Int) (by omega) k (roH H) w o (hW.takeI k).ro
  rw [htl] at A
  simp -dsimp -implicitDefEqProofs (disch := omega) [go_sem, -List.getD_eq_getElem?_getD, ite_yes, hlt, hlti, c1, hw, hk, hki]
  refine ACallQ.of A rfl ?_
  cases e2 : hasI (a.take k) (q : Int)
  rotate_left
  · simp -dsimp -implicitDefEqProofs (disch := omega) [go_sem, -List.getD_eq_getElem?_getD, ite_yes]
    exact fin_flat0 (by unfold lostV; split <;> rfl) (by rw [lostOk_no hlt (by rw [hIx, e1, e2]; rfl)]; rfl)
  have g1 := cs q hq
  have g2 := cu q hq2
  have hv := hR.v q hq
  have v1 : vAt' lo (q : Int) = lo.getD q 0 := by simp [vAt']
  have v2 : vAt' ho (q : Int) = ho.getD q 0 := by simp [vAt']
  rw [v1, v2] at en
  generalize lo.getD q 0 = y at *
  generalize ho.getD q 0 = z at *
  have m1 : 0 ≤ y * (L.2 + z) := Int.mul_nonneg hv.1.1 (by omega)
  have m2 : y * (L.2 + z) ≤ 1000000 * (L.2 + z) := Int.mul_le_mul_of_nonneg_right hv.1.2 (by omega)
  simp -dsimp -implicitDefEqProofs (disch := omega) [go_sem, -List.getD_eq_getElem?_getD, ite_yes, hq, hqi, hq2, hq2i, g1, g2, ht, hu, hlt, hlti, c1, hw]
  exact LoopEnd.of (k + 1) ⟨by omega, hf.next (by rw [hIx, e1, e2]; rfl)⟩ (by omega) (weakS_same (by simp -dsimp -implicitDefEqProofs (disch := omega) [go_sem, -List.getD_eq_getElem?_getD, ite_yes, ht, hu, hw, en]))
end Go.Proofs.Yteojpgmclplggaa
/- The order of repairs: both sides. -/
namespace Go.Proofs.Yteojpgmclplggaa
open Go.Am
set_option linter.unusedVariables false
set_option linter.unusedSimpArgs false
set_option maxRecDepth 100000
set_option maxHeartbeats 4000000
theorem wl_slI {t len c m j : Nat} {js : List (Option Nat)} (ht : t < m) : WL (sg m js) (m + j) [.slice (some ⟨t, 0, none⟩) len c] [.slice (some ⟨t, 0, none⟩) len c] :=
  have h : t < m + j := by omega
  .inr ⟨⟨h, .inl ⟨t, c, by simp [sg, ht], rfl⟩⟩, trivial⟩
def upN (k : Nat) : List Int := (List.range k).map Int.ofNat
theorem upN_length (k : Nat) : (upN k).length = k := by simp [upN]
theorem upN_succ (k : Nat) : upN (k + 1) = upN k ++ [(k : Int)] := by unfold upN; rw [List.range_succ, List.map_append]; rfl
theorem upN_out (n : Nat) (lt : Int → Int → Bool) : upN n = outI n lt 0 := by
  unfold outI upN fromI
  rw [Nat.sub_zero, ordI, List.nil_append, List.range_eq_range']
theorem repair1_A (lo ho : List Int) (hR : RepAt lo ho) (c d : Nat) (x y : Nat) (hx : x < lo.length) (hy : y < lo.length) (H : Heap) (t u b1 b2 : Nat) (hS : Sl nmE H t lo) (hU : Sl nmE H u ho) (hb1 : b1 < H.length) (hb2 : b2 < H.length)
    (cb1 : aCells H ⟨b1, 0, none⟩ 1 = some [.slice (some ⟨t, 0, none⟩) lo.length c]) (cb2 : aCells H ⟨b2, 0, none⟩ 1 = some [.slice (some ⟨u, 0, none⟩) ho.length d]) :
    AFunC Try.prog 36 [.int .i64 x, .int .i64 y, .pointer (some ⟨b1, 0, none⟩), .pointer (some ⟨b2, 0, none⟩)] H (.int .i64 (cmpI (vAt' lo y * vAt' ho x) (vAt' lo x * vAt' ho y))) H := by
  refine AFunC.of_body Try.func36 (by kernel_rfl) rfl (by kernel_rfl) (by simp [Try.ntmps36]) ?_
  have ht := hS.lt
  have hu := hU.lt
  have he := hR.e
  have hxh : x < ho.length := by omega
  have hyh : y < ho.length := by omega
  have c1 := hS.one (g := fun n => Value.int .i64 n) 0 x hx
  have c2 := hS.one (g := fun n => Value.int .i64 n) 0 y hy
  have c3 := hU.one (g := fun n => Value.int .i64 n) 0 x hxh
  have c4 := hU.one (g := fun n => Value.int .i64 n) 0 y hyh
  have v1 := hR.v x hx
  have v2 := hR.v y hy
  have hxi : (x : Int) < (lo.length : Int) := by omega
  have hyi : (y : Int) < (lo.length : Int) := by omega
  have hxhi : (x : Int) < (ho.length : Int) := by omega
  have hyhi : (y : Int) < (ho.length : Int) := by omega
  have e1 : vAt' lo (x : Int) = lo.getD x 0 := by simp [vAt']
  have e2 : vAt' lo (y : Int) = lo.getD y 0 := by simp [vAt']
  have e3 : vAt' ho (x : Int) = ho.getD x 0 := by simp [vAt']
  have e4 : vAt' ho (y : Int) = ho.getD y 0 := by simp [vAt']
  rw [e1, e2, e3, e4]
  generalize lo.getD x 0 = p1 at *
  generalize lo.getD y 0 = p2 at *
  generalize ho.getD x 0 = p3 at *
  generalize ho.getD y 0 = p4 at *
  have m1 : 0 ≤ p2 * p3 := Int.mul_nonneg v2.1.1 (by omega)
  have m2 : p2 * p3 ≤ 1000000 * p3 := Int.mul_le_mul_of_nonneg_right v2.1.2 (by omega)
  have m3 : 0 ≤ p1 * p4 := Int.mul_nonneg v1.1.1 (by omega)
  have m4 : p1 * p4 ≤ 1000000 * p4 := Int.mul_le_mul_of_nonneg_right v1.1.2 (by omega)
  simp -dsimp -implicitDefEqProofs (disch := omega) [go_sem, -List.getD_eq_getElem?_getD, ite_yes, hb1, hb2, cb1, cb2]
  refine ADraw.quiet (by kernel_rfl) (by kernel_rfl) (by kernel_rfl) ?_
  simp -dsimp -implicitDefEqProofs (disch := omega) [go_sem, -List.getD_eq_getElem?_getD, ite_yes, hb1, hb2, cb1, cb2, hx, hy, hxh, hyh, hxi, hyi, hxhi, hyhi, c1, c2, c3, c4]
  refine ACallQ.of (compare_A _ _ _) rfl ?_
  simp -dsimp -implicitDefEqProofs (disch := omega) [go_sem, -List.getD_eq_getElem?_getD, ite_yes]
  exact fin_flat0 rfl rfl
theorem cmpI_rp (lo ho : List Int) (x y : Int) : rp lo ho x y = true ↔ cmpI (vAt' lo y * vAt' ho x) (vAt' lo x * vAt' ho y) < 0 := by
  unfold rp cmpI
  rw [decide_eq_true_eq]
  split
  · rename_i h; exact ⟨fun _ => by omega, fun _ => h⟩
  · rename_i h
    split
    · exact ⟨fun h' => absurd h' h, fun h' => by omega⟩
    · exact ⟨fun h' => absurd h' h, fun h' => by omega⟩
theorem iRepair_bad (lo ho : List Int) (hl : lo.length ≤ 1048577) (hh : ho.length ≤ 1048577) (hg : repB lo ho = false) (c d : Nat) (H : Heap) (t u : Nat) (hS : Sl nmE H t lo) (hU : Sl nmE H u ho) :
    AFunC Try.prog 11 [.slice (some ⟨t, 0, none⟩) lo.length c, .slice (some ⟨u, 0, none⟩) ho.length d] H (.tuple #[.slice none 0 0, .bool false]) H := by
  refine AFunC.of_body Try.func11 (by kernel_rfl) rfl (by kernel_rfl) (by simp [Try.ntmps11]) ?_
  have ht := hS.lt
  have hu := hU.lt
  simp -dsimp -implicitDefEqProofs (disch := omega) [go_sem, -List.getD_eq_getElem?_getD, ite_yes, ht, hu]
  refine ACall.of (areRepairs_A lo ho hl hh c d _ t u hS.app hU.app) ?_
  simp -dsimp -implicitDefEqProofs (disch := omega) [go_sem, -List.getD_eq_getElem?_getD, ite_yes, hg]
  exact fin_flat rfl rfl
theorem iRepair_good (lo ho : List Int) (hg : repB lo ho = true) (c d : Nat) (H : Heap) (t u : Nat) (hS : Sl nmE H t lo) (hU : Sl nmE H u ho) :
    AFunC Try.prog 11 [.slice (some ⟨t, 0, none⟩) lo.length c, .slice (some ⟨u, 0, none⟩) ho.length d] H (.tuple #[.slice (some ⟨H.length, 0, none⟩) lo.length 0, .bool true]) (H ++ [some ⟨(ordI (rp lo ho) lo.length).flatMap nmE, true, 3, 1⟩]) := by
  refine AFunC.of_body Try.func11 (by kernel_rfl) rfl (by kernel_rfl) (by simp [Try.ntmps11]) ?_
  have ht := hS.lt
  have hu := hU.lt
  have hR := repB_at hg
  have hn := hR.n
  have he := hR.e
  simp -dsimp -implicitDefEqProofs (disch := omega) [go_sem, -List.getD_eq_getElem?_getD, ite_yes, ht, hu]
  refine ACall.of (areRepairs_A lo ho (by omega) (by omega) c d _ t u hS.app hU.app) ?_
  simp -dsimp -implicitDefEqProofs (disch := omega) [go_sem, -List.getD_eq_getElem?_getD, ite_yes, hg, ht, hu]
  refine ALoop.intro (ι := Nat) (fun k => k ≤ lo.length) (fun k => [(2, .pointer (some ⟨H.length, 0, none⟩)), (3, .pointer (some ⟨H.length + 1, 0, none⟩)), (6, .slice (some ⟨H.length + 2, 0, none⟩) k 0), (14, .int .i64 lo.length), (15, .int .i64 k)])
    (fun k => H ++ [some ⟨[.slice (some ⟨t, 0, none⟩) lo.length c], true, 24, 1⟩, some ⟨[.slice (some ⟨u, 0, none⟩) ho.length d], true, 24, 1⟩, some ⟨(upN k).flatMap nmE, true, 3, 1⟩]) (fun k => lo.length - k) 0 (by omega) ?_ ?_
  · refine weakS_mk [some 0, some 1, some 2] rfl ?_ (by simp -dsimp -implicitDefEqProofs (disch := omega) [go_sem, -List.getD_eq_getElem?_getD, ite_yes, ht, hu])
    simp -dsimp -implicitDefEqProofs (disch := omega) [go_sem, -List.getD_eq_getElem?_getD, ite_yes]
    exact ⟨wl_slI ht, wl_slI hu, .inl ⟨rfl, rfl⟩⟩
  intro k hk
  have hul := upN_length k
  have hfl : ((upN k).flatMap nmE).length = k := by rw [nmE_length, hul]; omega
  by_cases hlt : k < lo.length
  · have e := upN_succ k
    simp -dsimp -implicitDefEqProofs (disch := omega) [go_sem, -List.getD_eq_getElem?_getD, ite_yes, hlt, hfl]
    refine ⟨by omega, LoopEnd.of (k + 1) (by omega) (by omega) (weakS_mk [some 0, some 1, some 4] rfl ?_ (by simp -dsimp -implicitDefEqProofs (disch := omega) [go_sem, -List.getD_eq_getElem?_getD, ite_yes, ht, hu]))⟩
    simp -dsimp -implicitDefEqProofs (disch := omega) [go_sem, -List.getD_eq_getElem?_getD, ite_yes]
    exact ⟨wl_slI ht, wl_slI hu, .inl ⟨by rw [e, List.flatMap_append]; rfl, by rw [show List.flatMap nmE (upN k) ++ [Value.int IntKind.i64 ↑k] = List.flatMap nmE (upN (k + 1)) by rw [e, List.flatMap_append]; rfl]; exact nmE_flat _⟩⟩
  obtain rfl : k = lo.length := by omega
  rw [upN_out lo.length (rp lo ho)]
  simp -dsimp -implicitDefEqProofs (disch := omega) [go_sem, -List.getD_eq_getElem?_getD, ite_yes, ht, hu]
  refine ACall.of (sortI_A lo.length (by omega) (rp lo ho) 0 3 36 _ (H.length + 2) H.length (H.length + 1) ((Heap.get_len_add _ _ 2).trans rfl) (by simp) (by simp) ?_) ?_
  · intro G hG hGl x y hx hy
    have gl : G.length = H.length + 3 := by rw [hGl]; simp
    have g0 : aCells G ⟨H.length, 0, none⟩ 1 = some [.slice (some ⟨t, 0, none⟩) lo.length c] := by
      rw [aCells_eq, hG _ (by omega), ← aCells_eq]; simp -dsimp -implicitDefEqProofs (disch := omega) [go_sem, -List.getD_eq_getElem?_getD, ite_yes]
    have g1 : aCells G ⟨H.length + 1, 0, none⟩ 1 = some [.slice (some ⟨u, 0, none⟩) ho.length d] := by
      rw [aCells_eq, hG _ (by omega), ← aCells_eq]; simp -dsimp -implicitDefEqProofs (disch := omega) [go_sem, -List.getD_eq_getElem?_getD, ite_yes]
    have gS : Sl nmE G t lo := by
      obtain ⟨b, r, hb, ex⟩ := hS
      exact ⟨b, r, by rw [hG _ (by omega), Heap.get_append_left (Heap.get_lt hb)]; exact hb, ex⟩
    have gU : Sl nmE G u ho := by
      obtain ⟨b, r, hb, ex⟩ := hU
      exact ⟨b, r, by rw [hG _ (by omega), Heap.get_append_left (Heap.get_lt hb)]; exact hb, ex⟩
    exact ⟨_, repair1_A lo ho hR c d x y hx hy (roH G) t u H.length (H.length + 1) gS.ro gU.ro (by rw [roH_length]; omega) (by rw [roH_length]; omega) (by rw [aCells_roI]; exact g0) (by rw [aCells_roI]; exact g1), cmpI_rp lo ho x y⟩
  simp -dsimp -implicitDefEqProofs (disch := omega) [go_sem, -List.getD_eq_getElem?_getD, ite_yes]
  refine fin_list [some 2] rfl ?_ (by simp -dsimp -implicitDefEqProofs (disch := omega) [go_sem, -List.getD_eq_getElem?_getD, ite_yes])
  simp -dsimp -implicitDefEqProofs (disch := omega) [go_sem, -List.getD_eq_getElem?_getD, ite_yes]
  exact .inl ⟨rfl, nmE_flat _⟩
theorem nmI_take (L : List Int) (k : Nat) : List.take k (L.flatMap nmE) = (L.take k).flatMap nmE := by
  have e : ∀ M : List Int, M.flatMap nmE = M.map (Value.int .i64) := fun M => by
    induction M with
    | nil => rfl
    | cons x M ih => rw [List.flatMap_cons, ih]; rfl
  rw [e, e, List.map_take]
theorem nmI_drop (L : List Int) (k : Nat) : List.drop k (L.flatMap nmE) = (L.drop k).flatMap nmE := by
  have e : ∀ M : List Int, M.flatMap nmE = M.map (Value.int .i64) := fun M => by
    induction M with
    | nil => rfl
    | cons x M ih => rw [List.flatMap_cons, ih]; rfl
  rw [e, e, List.map_drop]
theorem sRepair_bad (lo ho : List Int) (hl : lo.length ≤ 1048577) (hh : ho.length ≤ 1048577) (hg : repB lo ho = false) (c d : Nat) (H : Heap) (t u : Nat) (hS : Sl nmE H t lo) (hU : Sl nmE H u ho) :
    AFunC Try.prog 12 [.slice (some ⟨t, 0, none⟩) lo.length c, .slice (some ⟨u, 0, none⟩) ho.length d] H (.tuple #[.slice (some ⟨H.length, 0, none⟩) 0 0, .bool false]) (H ++ [some ⟨[], true, 3, 1⟩]) := by
  refine AFunC.of_body Try.func12 (by kernel_rfl) rfl (by kernel_rfl) (by simp [Try.ntmps12]) ?_
  have ht := hS.lt
  have hu := hU.lt
  simp -dsimp -implicitDefEqProofs (disch := omega) [go_sem, -List.getD_eq_getElem?_getD, ite_yes, ht, hu]
  refine ACall.of (l17Repairs_A lo ho hl hh c d _ t u hS.app hU.app) ?_
  simp -dsimp -implicitDefEqProofs (disch := omega) [go_sem, -List.getD_eq_getElem?_getD, ite_yes, hg]
  refine fin_list [some 0] rfl ?_ (by simp -dsimp -implicitDefEqProofs (disch := omega) [go_sem, -List.getD_eq_getElem?_getD, ite_yes])
  simp -dsimp -implicitDefEqProofs (disch := omega) [go_sem, -List.getD_eq_getElem?_getD, ite_yes]
  exact .inl ⟨rfl, rfl⟩
theorem sRepair_good (lo ho : List Int) (hg : repB lo ho = true) (c d : Nat) (H : Heap) (t u : Nat) (hS : Sl nmE H t lo) (hU : Sl nmE H u ho) :
    AFunC Try.prog 12 [.slice (some ⟨t, 0, none⟩) lo.length c, .slice (some ⟨u, 0, none⟩) ho.length d] H (.tuple #[.slice (some ⟨H.length, 0, none⟩) lo.length 0, .bool true]) (H ++ [some ⟨(ordI (rp lo ho) lo.length).flatMap nmE, true, 3, 1⟩]) := by
  refine AFunC.of_body Try.func12 (by kernel_rfl) rfl (by kernel_rfl) (by simp [Try.ntmps12]) ?_
  have ht := hS.lt
  have hu := hU.lt
  have hR := repB_at hg
  have hn := hR.n
  have he := hR.e
  have cs := fun k hk => hS.one (g := fun n => Value.int .i64 n) 0 k hk
  have cu := fun k hk => hU.one (g := fun n => Value.int .i64 n) 0 k hk
  simp -dsimp -implicitDefEqProofs (disch := omega) [go_sem, -List.getD_eq_getElem?_getD, ite_yes, ht, hu]
  refine ACall.of (l17Repairs_A lo ho (by omega) (by omega) c d _ t u hS.app hU.app) ?_
  simp -dsimp -implicitDefEqProofs (disch := omega) [go_sem, -List.getD_eq_getElem?_getD, ite_yes, hg, ht, hu]
  refine ALoop.intro (ι := Nat) (fun i => i ≤ lo.length) (fun i => [(0, .slice (some ⟨t, 0, none⟩) lo.length c), (1, .slice (some ⟨u, 0, none⟩) ho.length d), (6, .slice (some ⟨H.length, 0, none⟩) i 0), (7, .int .i64 i)])
    (fun i => H ++ [some ⟨(ordI (rp lo ho) i).flatMap nmE, true, 3, 1⟩]) (fun i => lo.length - i) 0 (by omega) ?_ ?_
  · refine weakS_mk [some 0] rfl ?_ (by simp -dsimp -implicitDefEqProofs (disch := omega) [go_sem, -List.getD_eq_getElem?_getD, ite_yes, ht, hu])
    simp -dsimp -implicitDefEqProofs (disch := omega) [go_sem, -List.getD_eq_getElem?_getD, ite_yes]
    exact .inl ⟨rfl, rfl⟩
  intro i hi
  have hol := ordI_length (rp lo ho) i
  have hof : ((ordI (rp lo ho) i).flatMap nmE).length = i := by rw [nmE_length, hol]; omega
  by_cases hlt : i < lo.length
  rotate_left
  · obtain rfl : i = lo.length := by omega
    simp -dsimp -implicitDefEqProofs (disch := omega) [go_sem, -List.getD_eq_getElem?_getD, ite_yes, hlt]
    refine fin_list [some 0] rfl ?_ (by simp -dsimp -implicitDefEqProofs (disch := omega) [go_sem, -List.getD_eq_getElem?_getD, ite_yes])
    simp -dsimp -implicitDefEqProofs (disch := omega) [go_sem, -List.getD_eq_getElem?_getD, ite_yes]
    exact .inl ⟨rfl, nmE_flat _⟩
  have hlti : (i : Int) < (lo.length : Int) := by omega
  have hmemO := ordI_mem (rp lo ho) i
  have eO : ordI (rp lo ho) (i + 1) = (ordI (rp lo ho) i).take (posI (rp lo ho) (ordI (rp lo ho) i) i i) ++ (i : Int) :: (ordI (rp lo ho) i).drop (posI (rp lo ho) (ordI (rp lo ho) i) i i) := by
    rw [ordI, insI, hol]
  obtain ⟨O', hO'⟩ : ∃ O', ordI (rp lo ho) (i + 1) = O' := ⟨_, rfl⟩
  have hol' := ordI_length (rp lo ho) (i + 1)
  rw [hO'] at eO hol'
  generalize ordI (rp lo ho) i = O at *
  have x1 := cs i hlt
  have x2 := cu i (by omega)
  have hlh : i < ho.length := by omega
  have hlhi : (i : Int) < (ho.length : Int) := by omega
  have vx := hR.v i hlt
  simp -dsimp -implicitDefEqProofs (disch := omega) [go_sem, -List.getD_eq_getElem?_getD, ite_yes, hlt, hlti]
  refine ALoop.intro (ι := Nat) (fun k => k ≤ i ∧ posI (rp lo ho) O i i = posI (rp lo ho) O i k) (fun k => [(0, .slice (some ⟨t, 0, none⟩) lo.length c), (1, .slice (some ⟨u, 0, none⟩) ho.length d), (6, .slice (some ⟨H.length, 0, none⟩) i 0), (7, .int .i64 i), (8, .int .i64 k)])
    (fun _ => H ++ [some ⟨O.flatMap nmE, true, 3, 1⟩]) (fun k => k) i ⟨Nat.le_refl _, rfl⟩ ?_ ?_
  · refine weakS_mk [some 0] rfl ?_ (by simp -dsimp -implicitDefEqProofs (disch := omega) [go_sem, -List.getD_eq_getElem?_getD, ite_yes, ht, hu])
    simp -dsimp -implicitDefEqProofs (disch := omega) [go_sem, -List.getD_eq_getElem?_getD, ite_yes]
    exact .inl ⟨rfl, nmE_flat _⟩
  rintro k ⟨hk, hpos⟩
  -- the end of the inner loop: the number is put at k
  cases k with
  | zero =>
    have hp0 : posI (rp lo ho) O i i = 0 := hpos
    rw [hp0] at eO
    have n1 := nmI_take O 0
    have n2 := nmI_drop O 0
    have n3 : (List.flatMap nmE (List.take 0 O)).length = 0 := by simp
    have n4 : (List.flatMap nmE (List.drop 0 O)).length = i - 0 := by rw [nmE_length, List.length_drop]; omega
    have n5 : List.take (i - 0) (List.flatMap nmE (List.drop 0 O)) = List.flatMap nmE (List.drop 0 O) := List.take_of_length_le (by omega)
    have e4 : 0 + 1 + (i - 0) = i + 1 := by omega
    have ef : O'.flatMap nmE = (O.take 0).flatMap nmE ++ Value.int .i64 i :: (O.drop 0).flatMap nmE := by rw [eO]; simp [nmE]
    try simp only [List.drop_zero, List.take_zero, List.flatMap_nil, Nat.sub_zero, List.nil_append, Nat.zero_add] at n1 n2 n3 n4 n5 e4 ef
    simp -dsimp -implicitDefEqProofs (disch := omega) [go_sem, -List.getD_eq_getElem?_getD, ite_yes, ht, hu]
    refine ADraw.quiet (by kernel_rfl) (by kernel_rfl) (by kernel_rfl) ?_
    simp -dsimp -implicitDefEqProofs (disch := omega) [go_sem, -List.getD_eq_getElem?_getD, ite_yes, ht, hu, hlt, hlti, hof]
    refine ADraw.mid [(0, .slice (some ⟨t, 0, none⟩) lo.length c), (1, .slice (some ⟨u, 0, none⟩) ho.length d), (6, .slice (some ⟨H.length, 0, none⟩) (i + 1) 0), (7, .int .i64 i)] (H ++ [some ⟨O'.flatMap nmE, true, 3, 1⟩]) ?_ ?_
    · skip
      refine ADraw.any (H ++ [some ⟨O.flatMap nmE, true, 3, 1⟩]) (by kernel_rfl) (by first | exact SubH.refl | exact SubH.app | exact SubH.both (by simp [subL])) ?_
      refine AAny.takes (fuel := 6) (by kernel_rfl) (by kernel_rfl) [1, 2, 3, 5, 8, 9, 10] (by kernel_rfl) (by kernel_rfl) ?_
      simp -dsimp -implicitDefEqProofs (disch := omega) [go_sem, -List.getD_eq_getElem?_getD, ite_yes, ht, hu, hlt, hlti, hof, n1, n2, n3, n4, n5]
      refine AAny.two 5 0 6 (by kernel_rfl) (by kernel_rfl) (by kernel_rfl) ?_ ?_
      · simp -dsimp -implicitDefEqProofs (disch := omega) [go_sem, -List.getD_eq_getElem?_getD, ite_yes, ht, hu, hlt, hlti, hof, n1, n2, n3, n4, n5]
        first | refine AAt.of (by first | exact SubH.refl | exact SubH.app | exact SubH.both (by simp [subL])) ?_ | (refine ⟨?_, AAt.of (by first | exact SubH.refl | exact SubH.app | exact SubH.both (by simp [subL])) ?_⟩; · omega)
        refine AAny.two 4 4 6 (by kernel_rfl) (by kernel_rfl) (by kernel_rfl) ?_ ?_
        · simp -dsimp -implicitDefEqProofs (disch := omega) [go_sem, -List.getD_eq_getElem?_getD, ite_yes, ht, hu, hlt, hlti, hof, n1, n2, n3, n4, n5]
          first | refine AAt.of (by first | exact SubH.refl | exact SubH.app | exact SubH.both (by simp [subL])) ?_ | (refine ⟨?_, AAt.of (by first | exact SubH.refl | exact SubH.app | exact SubH.both (by simp [subL])) ?_⟩; · omega)
          refine AAny.one 3 6 (by kernel_rfl) (by kernel_rfl) (by kernel_rfl) ?_
          simp -dsimp -implicitDefEqProofs (disch := omega) [go_sem, -List.getD_eq_getElem?_getD, ite_yes, ht, hu, hlt, hlti, hof, n1, n2, n3, n4, n5]
          first | refine AAt.of (by first | exact SubH.refl | exact SubH.app | exact SubH.both (by simp [subL])) ?_ | (refine ⟨?_, AAt.of (by first | exact SubH.refl | exact SubH.app | exact SubH.both (by simp [subL])) ?_⟩; · omega)
          refine AAny.one 2 7 (by kernel_rfl) (by kernel_rfl) (by kernel_rfl) ?_
          simp -dsimp -implicitDefEqProofs (disch := omega) [go_sem, -List.getD_eq_getElem?_getD, ite_yes, ht, hu, hlt, hlti, hof, n1, n2, n3, n4, n5]
          first | refine AAt.of (by first | exact SubH.refl | exact SubH.app | exact SubH.both (by simp [subL])) ?_ | (refine ⟨?_, AAt.of (by first | exact SubH.refl | exact SubH.app | exact SubH.both (by simp [subL])) ?_⟩; · omega)
          refine AAny.one 1 11 (by kernel_rfl) (by kernel_rfl) (by kernel_rfl) ?_
          simp -dsimp -implicitDefEqProofs (disch := omega) [go_sem, -List.getD_eq_getElem?_getD, ite_yes, ht, hu, hlt, hlti, hof, n1, n2, n3, n4, n5]
          first | refine AAt.of (by first | exact SubH.refl | exact SubH.app | exact SubH.both (by simp [subL])) ?_ | (refine ⟨?_, AAt.of (by first | exact SubH.refl | exact SubH.app | exact SubH.both (by simp [subL])) ?_⟩; · omega)
          refine AAny.takes (fuel := 0) (by kernel_rfl) (by kernel_rfl) [12] (by kernel_rfl) (by kernel_rfl) ?_
          simp -dsimp -implicitDefEqProofs (disch := omega) [go_sem, -List.getD_eq_getElem?_getD, ite_yes, ht, hu, hlt, hlti, hof, n1, n2, n3, n4, n5]
          refine AAny.done (by kernel_rfl) ?_
          simp -dsimp -implicitDefEqProofs (disch := omega) [go_sem, -List.getD_eq_getElem?_getD, ite_yes, ht, hu, hlt, hlti, hof, n1, n2, n3, n4, n5]
          refine ⟨weakS_mk [some 5] rfl ?_ (by simp -dsimp -implicitDefEqProofs (disch := omega) [go_sem, -List.getD_eq_getElem?_getD, ite_yes, ht, hu, e4])⟩
          simp -dsimp -implicitDefEqProofs (disch := omega) [go_sem, -List.getD_eq_getElem?_getD, ite_yes, ht, hu, hlt, hlti, hof, n1, n2, n3, n4, n5]
          exact .inl ⟨ef, ef ▸ nmE_flat O'⟩
        · simp -dsimp -implicitDefEqProofs (disch := omega) [go_sem, -List.getD_eq_getElem?_getD, ite_yes, ht, hu, hlt, hlti, hof, n1, n2, n3, n4, n5]
          first | refine AAt.of (by first | exact SubH.refl | exact SubH.app | exact SubH.both (by simp [subL])) ?_ | (refine ⟨?_, AAt.of (by first | exact SubH.refl | exact SubH.app | exact SubH.both (by simp [subL])) ?_⟩; · omega)
          refine AAny.one 3 4 (by kernel_rfl) (by kernel_rfl) (by kernel_rfl) ?_
          simp -dsimp -implicitDefEqProofs (disch := omega) [go_sem, -List.getD_eq_getElem?_getD, ite_yes, ht, hu, hlt, hlti, hof, n1, n2, n3, n4, n5]
          first | refine AAt.of (by first | exact SubH.refl | exact SubH.app | exact SubH.both (by simp [subL])) ?_ | (refine ⟨?_, AAt.of (by first | exact SubH.refl | exact SubH.app | exact SubH.both (by simp [subL])) ?_⟩; · omega)
          refine AAny.one 2 7 (by kernel_rfl) (by kernel_rfl) (by kernel_rfl) ?_
          simp -dsimp -implicitDefEqProofs (disch := omega) [go_sem, -List.getD_eq_getElem?_getD, ite_yes, ht, hu, hlt, hlti, hof, n1, n2, n3, n4, n5]
          first | refine AAt.of (by first | exact SubH.refl | exact SubH.app | exact SubH.both (by simp [subL])) ?_ | (refine ⟨?_, AAt.of (by first | exact SubH.refl | exact SubH.app | exact SubH.both (by simp [subL])) ?_⟩; · omega)
          refine AAny.one 1 11 (by kernel_rfl) (by kernel_rfl) (by kernel_rfl) ?_
          simp -dsimp -implicitDefEqProofs (disch := omega) [go_sem, -List.getD_eq_getElem?_getD, ite_yes, ht, hu, hlt, hlti, hof, n1, n2, n3, n4, n5]
          first | refine AAt.of (by first | exact SubH.refl | exact SubH.app | exact SubH.both (by simp [subL])) ?_ | (refine ⟨?_, AAt.of (by first | exact SubH.refl | exact SubH.app | exact SubH.both (by simp [subL])) ?_⟩; · omega)
          refine AAny.takes (fuel := 0) (by kernel_rfl) (by kernel_rfl) [12] (by kernel_rfl) (by kernel_rfl) ?_
          simp -dsimp -implicitDefEqProofs (disch := omega) [go_sem, -List.getD_eq_getElem?_getD, ite_yes, ht, hu, hlt, hlti, hof, n1, n2, n3, n4, n5]
          refine AAny.done (by kernel_rfl) ?_
          simp -dsimp -implicitDefEqProofs (disch := omega) [go_sem, -List.getD_eq_getElem?_getD, ite_yes, ht, hu, hlt, hlti, hof, n1, n2, n3, n4, n5]
          refine ⟨weakS_mk [some 5] rfl ?_ (by simp -dsimp -implicitDefEqProofs (disch := omega) [go_sem, -List.getD_eq_getElem?_getD, ite_yes, ht, hu, e4])⟩
          simp -dsimp -implicitDefEqProofs (disch := omega) [go_sem, -List.getD_eq_getElem?_getD, ite_yes, ht, hu, hlt, hlti, hof, n1, n2, n3, n4, n5]
          exact .inl ⟨ef, ef ▸ nmE_flat O'⟩
      · simp -dsimp -implicitDefEqProofs (disch := omega) [go_sem, -List.getD_eq_getElem?_getD, ite_yes, ht, hu, hlt, hlti, hof, n1, n2, n3, n4, n5]
        first | refine AAt.of (by first | exact SubH.refl | exact SubH.app | exact SubH.both (by simp [subL])) ?_ | (refine ⟨?_, AAt.of (by first | exact SubH.refl | exact SubH.app | exact SubH.both (by simp [subL])) ?_⟩; · omega)
        refine AAny.one 4 0 (by kernel_rfl) (by kernel_rfl) (by kernel_rfl) ?_
        simp -dsimp -implicitDefEqProofs (disch := omega) [go_sem, -List.getD_eq_getElem?_getD, ite_yes, ht, hu, hlt, hlti, hof, n1, n2, n3, n4, n5]
        first | refine AAt.of (by first | exact SubH.refl | exact SubH.app | exact SubH.both (by simp [subL])) ?_ | (refine ⟨?_, AAt.of (by first | exact SubH.refl | exact SubH.app | exact SubH.both (by simp [subL])) ?_⟩; · omega)
        refine AAny.one 3 4 (by kernel_rfl) (by kernel_rfl) (by kernel_rfl) ?_
        simp -dsimp -implicitDefEqProofs (disch := omega) [go_sem, -List.getD_eq_getElem?_getD, ite_yes, ht, hu, hlt, hlti, hof, n1, n2, n3, n4, n5]
        first | refine AAt.of (by first | exact SubH.refl | exact SubH.app | exact SubH.both (by simp [subL])) ?_ | (refine ⟨?_, AAt.of (by first | exact SubH.refl | exact SubH.app | exact SubH.both (by simp [subL])) ?_⟩; · omega)
        refine AAny.one 2 7 (by kernel_rfl) (by kernel_rfl) (by kernel_rfl) ?_
        simp -dsimp -implicitDefEqProofs (disch := omega) [go_sem, -List.getD_eq_getElem?_getD, ite_yes, ht, hu, hlt, hlti, hof, n1, n2, n3, n4, n5]
        first | refine AAt.of (by first | exact SubH.refl | exact SubH.app | exact SubH.both (by simp [subL])) ?_ | (refine ⟨?_, AAt.of (by first | exact SubH.refl | exact SubH.app | exact SubH.both (by simp [subL])) ?_⟩; · omega)
        refine AAny.one 1 11 (by kernel_rfl) (by kernel_rfl) (by kernel_rfl) ?_
        simp -dsimp -implicitDefEqProofs (disch := omega) [go_sem, -List.getD_eq_getElem?_getD, ite_yes, ht, hu, hlt, hlti, hof, n1, n2, n3, n4, n5]
        first | refine AAt.of (by first | exact SubH.refl | exact SubH.app | exact SubH.both (by simp [subL])) ?_ | (refine ⟨?_, AAt.of (by first | exact SubH.refl | exact SubH.app | exact SubH.both (by simp [subL])) ?_⟩; · omega)
        refine AAny.takes (fuel := 0) (by kernel_rfl) (by kernel_rfl) [12] (by kernel_rfl) (by kernel_rfl) ?_
        simp -dsimp -implicitDefEqProofs (disch := omega) [go_sem, -List.getD_eq_getElem?_getD, ite_yes, ht, hu, hlt, hlti, hof, n1, n2, n3, n4, n5]
        refine AAny.done (by kernel_rfl) ?_
        simp -dsimp -implicitDefEqProofs (disch := omega) [go_sem, -List.getD_eq_getElem?_getD, ite_yes, ht, hu, hlt, hlti, hof, n1, n2, n3, n4, n5]
        refine ⟨weakS_mk [some 5] rfl ?_ (by simp -dsimp -implicitDefEqProofs (disch := omega) [go_sem, -List.getD_eq_getElem?_getD, ite_yes, ht, hu, e4])⟩
        simp -dsimp -implicitDefEqProofs (disch := omega) [go_sem, -List.getD_eq_getElem?_getD, ite_yes, ht, hu, hlt, hlti, hof, n1, n2, n3, n4, n5]
        exact .inl ⟨ef, ef ▸ nmE_flat O'⟩
    simp -dsimp -implicitDefEqProofs (disch := omega) [go_sem, -List.getD_eq_getElem?_getD, ite_yes]
    refine LoopEnd.of (i + 1) (by omega) (by omega) (weakS_mk [some 0] rfl ?_ (by simp -dsimp -implicitDefEqProofs (disch := omega) [go_sem, -List.getD_eq_getElem?_getD, ite_yes, ht, hu]))
    rw [hO']
    simp -dsimp -implicitDefEqProofs (disch := omega) [go_sem, -List.getD_eq_getElem?_getD, ite_yes]
    exact .inl ⟨rfl, nmE_flat _⟩
  | succ k =>
  have hkl : k < O.length := by omega
  have hg : O.getD k 0 ∈ O := by rw [List.getD_eq_getElem?_getD, List.getElem?_eq_getElem hkl]; exact List.getElem_mem _
  obtain ⟨y, hy, hyi⟩ := hmemO _ hg
  have hyl : y < lo.length := by omega
  have hyh : y < ho.length := by omega
  have hyli : (y : Int) < (lo.length : Int) := by omega
  have hyhi : (y : Int) < (ho.length : Int) := by omega
  have y1 := cs y hyl
  have y2 := cu y hyh
  have vy := hR.v y hyl
  have cO : List.take 1 (List.drop k (O.flatMap nmE)) = [.int .i64 y] := by
    rw [nmI_drop, nmI_take, List.drop_eq_getElem_cons hkl]
    rw [List.getD_eq_getElem?_getD, List.getElem?_eq_getElem hkl] at hy
    simp only [Option.getD_some] at hy
    rw [hy]; rfl
  have hp : posI (rp lo ho) O i (k + 1) = if rp lo ho i y then posI (rp lo ho) O i k else k + 1 := by rw [posI, hy]
  have er : rp lo ho i y = decide (lo.getD y 0 * ho.getD i 0 < lo.getD i 0 * ho.getD y 0) := by unfold rp vAt'; simp
  generalize lo.getD i 0 = p1 at *
  generalize ho.getD i 0 = p2 at *
  generalize lo.getD y 0 = p3 at *
  generalize ho.getD y 0 = p4 at *
  have m1 : 0 ≤ p1 * p4 := Int.mul_nonneg vx.1.1 (by omega)
  have m2 : p1 * p4 ≤ 1000000 * p4 := Int.mul_le_mul_of_nonneg_right vx.1.2 (by omega)
  have m3 : 0 ≤ p3 * p2 := Int.mul_nonneg vy.1.1 (by omega)
  have m4 : p3 * p2 ≤ 1000000 * p2 := Int.mul_le_mul_of_nonneg_right vy.1.2 (by omega)
  have hk1 : k < i := by omega
  have hk1i : (k : Int) < (i : Int) := by omega
  simp -dsimp -implicitDefEqProofs (disch := omega) [go_sem, -List.getD_eq_getElem?_getD, ite_yes, ht, hu]
  refine ADraw.quiet (by kernel_rfl) (by kernel_rfl) (by kernel_rfl) ?_
  by_cases hc : p3 * p2 < p1 * p4
  · rw [er, decide_eq_true hc, if_pos rfl] at hp
    simp -dsimp -implicitDefEqProofs (disch := omega) [go_sem, -List.getD_eq_getElem?_getD, ite_yes, ht, hu, hlt, hlti, hlh, hlhi, hof, x1, x2, y1, y2, cO, hyl, hyh, hyli, hyhi, hk1, hk1i, hc]
    refine LoopEnd.of k ⟨by omega, hpos.trans hp⟩ (by omega) (weakS_mk [some 0] rfl ?_ (by simp -dsimp -implicitDefEqProofs (disch := omega) [go_sem, -List.getD_eq_getElem?_getD, ite_yes, ht, hu]))
    simp -dsimp -implicitDefEqProofs (disch := omega) [go_sem, -List.getD_eq_getElem?_getD, ite_yes]
    exact .inl ⟨rfl, nmE_flat _⟩
  rw [er, decide_eq_false hc] at hp
  simp only [Bool.false_eq_true, if_false] at hp
  have hpk : posI (rp lo ho) O i i = k + 1 := hpos.trans hp
  rw [hpk] at eO
  have n1 := nmI_take O (k + 1)
  have n2 := nmI_drop O (k + 1)
  have n3 : (List.flatMap nmE (List.take (k + 1) O)).length = k + 1 := by rw [nmE_length, List.length_take]; omega
  have n4 : (List.flatMap nmE (List.drop (k + 1) O)).length = i - (k + 1) := by rw [nmE_length, List.length_drop]; omega
  have n5 : List.take (i - (k + 1)) (List.flatMap nmE (List.drop (k + 1) O)) = List.flatMap nmE (List.drop (k + 1) O) := List.take_of_length_le (by omega)
  have e4 : k + 1 + 1 + (i - (k + 1)) = i + 1 := by omega
  have ef : O'.flatMap nmE = (O.take (k + 1)).flatMap nmE ++ Value.int .i64 i :: (O.drop (k + 1)).flatMap nmE := by rw [eO]; simp [nmE]
  have hki : ((k : Int) + 1) ≤ (i : Int) := by omega
  have hki2 : ((k : Int) + 1).toNat = k + 1 := by omega
  have hkn : k + 1 ≤ i := by omega
  simp -dsimp -implicitDefEqProofs (disch := omega) [go_sem, -List.getD_eq_getElem?_getD, ite_yes, ht, hu, hlt, hlti, hlh, hlhi, hof, x1, x2, y1, y2, cO, hyl, hyh, hyli, hyhi, hk1, hk1i, hc]
  refine ADraw.mid [(0, .slice (some ⟨t, 0, none⟩) lo.length c), (1, .slice (some ⟨u, 0, none⟩) ho.length d), (6, .slice (some ⟨H.length, 0, none⟩) (i + 1) 0), (7, .int .i64 i)] (H ++ [some ⟨O'.flatMap nmE, true, 3, 1⟩]) ?_ ?_
  · skip
    refine ADraw.any (H ++ [some ⟨O.flatMap nmE, true, 3, 1⟩]) (by kernel_rfl) (by first | exact SubH.refl | exact SubH.app | exact SubH.both (by simp [subL])) ?_
    refine AAny.takes (fuel := 6) (by kernel_rfl) (by kernel_rfl) [1, 2, 3, 5, 8, 9, 10] (by kernel_rfl) (by kernel_rfl) ?_
    simp -dsimp -implicitDefEqProofs (disch := omega) [go_sem, -List.getD_eq_getElem?_getD, ite_yes, ht, hu, hlt, hlti, hof, hki, hki2, hkn, n1, n2, n3, n4, n5]
    refine AAny.two 5 0 6 (by kernel_rfl) (by kernel_rfl) (by kernel_rfl) ?_ ?_
    · simp -dsimp -implicitDefEqProofs (disch := omega) [go_sem, -List.getD_eq_getElem?_getD, ite_yes, ht, hu, hlt, hlti, hof, hki, hki2, hkn, n1, n2, n3, n4, n5]
      first | refine AAt.of (by first | exact SubH.refl | exact SubH.app | exact SubH.both (by simp [subL])) ?_ | (refine ⟨?_, AAt.of (by first | exact SubH.refl | exact SubH.app | exact SubH.both (by simp [subL])) ?_⟩; · omega)
      refine AAny.two 4 4 6 (by kernel_rfl) (by kernel_rfl) (by kernel_rfl) ?_ ?_
      · simp -dsimp -implicitDefEqProofs (disch := omega) [go_sem, -List.getD_eq_getElem?_getD, ite_yes, ht, hu, hlt, hlti, hof, hki, hki2, hkn, n1, n2, n3, n4, n5]
        first | refine AAt.of (by first | exact SubH.refl | exact SubH.app | exact SubH.both (by simp [subL])) ?_ | (refine ⟨?_, AAt.of (by first | exact SubH.refl | exact SubH.app | exact SubH.both (by simp [subL])) ?_⟩; · omega)
        refine AAny.one 3 6 (by kernel_rfl) (by kernel_rfl) (by kernel_rfl) ?_
        simp -dsimp -implicitDefEqProofs (disch := omega) [go_sem, -List.getD_eq_getElem?_getD, ite_yes, ht, hu, hlt, hlti, hof, hki, hki2, hkn, n1, n2, n3, n4, n5]
        first | refine AAt.of (by first | exact SubH.refl | exact SubH.app | exact SubH.both (by simp [subL])) ?_ | (refine ⟨?_, AAt.of (by first | exact SubH.refl | exact SubH.app | exact SubH.both (by simp [subL])) ?_⟩; · omega)
        refine AAny.one 2 7 (by kernel_rfl) (by kernel_rfl) (by kernel_rfl) ?_
        simp -dsimp -implicitDefEqProofs (disch := omega) [go_sem, -List.getD_eq_getElem?_getD, ite_yes, ht, hu, hlt, hlti, hof, hki, hki2, hkn, n1, n2, n3, n4, n5]
        first | refine AAt.of (by first | exact SubH.refl | exact SubH.app | exact SubH.both (by simp [subL])) ?_ | (refine ⟨?_, AAt.of (by first | exact SubH.refl | exact SubH.app | exact SubH.both (by simp [subL])) ?_⟩; · omega)
        refine AAny.one 1 11 (by kernel_rfl) (by kernel_rfl) (by kernel_rfl) ?_
        simp -dsimp -implicitDefEqProofs (disch := omega) [go_sem, -List.getD_eq_getElem?_getD, ite_yes, ht, hu, hlt, hlti, hof, hki, hki2, hkn, n1, n2, n3, n4, n5]
        first | refine AAt.of (by first | exact SubH.refl | exact SubH.app | exact SubH.both (by simp [subL])) ?_ | (refine ⟨?_, AAt.of (by first | exact SubH.refl | exact SubH.app | exact SubH.both (by simp [subL])) ?_⟩; · omega)
        refine AAny.takes (fuel := 0) (by kernel_rfl) (by kernel_rfl) [12] (by kernel_rfl) (by kernel_rfl) ?_
        simp -dsimp -implicitDefEqProofs (disch := omega) [go_sem, -List.getD_eq_getElem?_getD, ite_yes, ht, hu, hlt, hlti, hof, hki, hki2, hkn, n1, n2, n3, n4, n5]
        refine AAny.done (by kernel_rfl) ?_
        simp -dsimp -implicitDefEqProofs (disch := omega) [go_sem, -List.getD_eq_getElem?_getD, ite_yes, ht, hu, hlt, hlti, hof, hki, hki2, hkn, n1, n2, n3, n4, n5]
        refine ⟨weakS_mk [some 5] rfl ?_ (by simp -dsimp -implicitDefEqProofs (disch := omega) [go_sem, -List.getD_eq_getElem?_getD, ite_yes, ht, hu, e4])⟩
        simp -dsimp -implicitDefEqProofs (disch := omega) [go_sem, -List.getD_eq_getElem?_getD, ite_yes, ht, hu, hlt, hlti, hof, n1, n2, n3, n4, n5]
        exact .inl ⟨ef, ef ▸ nmE_flat O'⟩
      · simp -dsimp -implicitDefEqProofs (disch := omega) [go_sem, -List.getD_eq_getElem?_getD, ite_yes, ht, hu, hlt, hlti, hof, hki, hki2, hkn, n1, n2, n3, n4, n5]
        first | refine AAt.of (by first | exact SubH.refl | exact SubH.app | exact SubH.both (by simp [subL])) ?_ | (refine ⟨?_, AAt.of (by first | exact SubH.refl | exact SubH.app | exact SubH.both (by simp [subL])) ?_⟩; · omega)
        refine AAny.one 3 4 (by kernel_rfl) (by kernel_rfl) (by kernel_rfl) ?_
        simp -dsimp -implicitDefEqProofs (disch := omega) [go_sem, -List.getD_eq_getElem?_getD, ite_yes, ht, hu, hlt, hlti, hof, hki, hki2, hkn, n1, n2, n3, n4, n5]
        first | refine AAt.of (by first | exact SubH.refl | exact SubH.app | exact SubH.both (by simp [subL])) ?_ | (refine ⟨?_, AAt.of (by first | exact SubH.refl | exact SubH.app | exact SubH.both (by simp [subL])) ?_⟩; · omega)
        refine AAny.one 2 7 (by kernel_rfl) (by kernel_rfl) (by kernel_rfl) ?_
        simp -dsimp -implicitDefEqProofs (disch := omega) [go_sem, -List.getD_eq_getElem?_getD, ite_yes, ht, hu, hlt, hlti, hof, hki, hki2, hkn, n1, n2, n3, n4, n5]
        first | refine AAt.of (by first | exact SubH.refl | exact SubH.app | exact SubH.both (by simp [subL])) ?_ | (refine ⟨?_, AAt.of (by first | exact SubH.refl | exact SubH.app | exact SubH.both (by simp [subL])) ?_⟩; · omega)
        refine AAny.one 1 11 (by kernel_rfl) (by kernel_rfl) (by kernel_rfl) ?_
        simp -dsimp -implicitDefEqProofs (disch := omega) [go_sem, -List.getD_eq_getElem?_getD, ite_yes, ht, hu, hlt, hlti, hof, hki, hki2, hkn, n1, n2, n3, n4, n5]
        first | refine AAt.of (by first | exact SubH.refl | exact SubH.app | exact SubH.both (by simp [subL])) ?_ | (refine ⟨?_, AAt.of (by first | exact SubH.refl | exact SubH.app | exact SubH.both (by simp [subL])) ?_⟩; · omega)
        refine AAny.takes (fuel := 0) (by kernel_rfl) (by kernel_rfl) [12] (by kernel_rfl) (by kernel_rfl) ?_
        simp -dsimp -implicitDefEqProofs (disch := omega) [go_sem, -List.getD_eq_getElem?_getD, ite_yes, ht, hu, hlt, hlti, hof, hki, hki2, hkn, n1, n2, n3, n4, n5]
        refine AAny.done (by kernel_rfl) ?_
        simp -dsimp -implicitDefEqProofs (disch := omega) [go_sem, -List.getD_eq_getElem?_getD, ite_yes, ht, hu, hlt, hlti, hof, hki, hki2, hkn, n1, n2, n3, n4, n5]
        refine ⟨weakS_mk [some 5] rfl ?_ (by simp -dsimp -implicitDefEqProofs (disch := omega) [go_sem, -List.getD_eq_getElem?_getD, ite_yes, ht, hu, e4])⟩
        simp -dsimp -implicitDefEqProofs (disch := omega) [go_sem, -List.getD_eq_getElem?_getD, ite_yes, ht, hu, hlt, hlti, hof, n1, n2, n3, n4, n5]
        exact .inl ⟨ef, ef ▸ nmE_flat O'⟩
    · simp -dsimp -implicitDefEqProofs (disch := omega) [go_sem, -List.getD_eq_getElem?_getD, ite_yes, ht, hu, hlt, hlti, hof, hki, hki2, hkn, n1, n2, n3, n4, n5]
      first | refine AAt.of (by first | exact SubH.refl | exact SubH.app | exact SubH.both (by simp [subL])) ?_ | (refine ⟨?_, AAt.of (by first | exact SubH.refl | exact SubH.app | exact SubH.both (by simp [subL])) ?_⟩; · omega)
      refine AAny.one 4 0 (by kernel_rfl) (by kernel_rfl) (by kernel_rfl) ?_
      simp -dsimp -implicitDefEqProofs (disch := omega) [go_sem, -List.getD_eq_getElem?_getD, ite_yes, ht, hu, hlt, hlti, hof, hki, hki2, hkn, n1, n2, n3, n4, n5]
      first | refine AAt.of (by first | exact SubH.refl | exact SubH.app | exact SubH.both (by simp [subL])) ?_ | (refine ⟨?_, AAt.of (by first | exact SubH.refl | exact SubH.app | exact SubH.both (by simp [subL])) ?_⟩; · omega)
      refine AAny.one 3 4 (by kernel_rfl) (by kernel_rfl) (by kernel_rfl) ?_
      simp -dsimp -implicitDefEqProofs (disch := omega) [go_sem, -List.getD_eq_getElem?_getD, ite_yes, ht, hu, hlt, hlti, hof, hki, hki2, hkn, n1, n2, n3, n4, n5]
      first | refine AAt.of (by first | exact SubH.refl | exact SubH.app | exact SubH.both (by simp [subL])) ?_ | (refine ⟨?_, AAt.of (by first | exact SubH.refl | exact SubH.app | exact SubH.both (by simp [subL])) ?_⟩; · omega)
      refine AAny.one 2 7 (by kernel_rfl) (by kernel_rfl) (by kernel_rfl) ?_
      simp -dsimp -implicitDefEqProofs (disch := omega) [go_sem, -List.getD_eq_getElem?_getD, ite_yes, ht, hu, hlt, hlti, hof, hki, hki2, hkn, n1, n2, n3, n4, n5]
      first | refine AAt.of (by first | exact SubH.refl | exact SubH.app | exact SubH.both (by simp [subL])) ?_ | (refine ⟨?_, AAt.of (by first | exact SubH.refl | exact SubH.app | exact SubH.both (by simp [subL])) ?_⟩; · omega)
      refine AAny.one 1 11 (by kernel_rfl) (by kernel_rfl) (by kernel_rfl) ?_
      simp -dsimp -implicitDefEqProofs (disch := omega) [go_sem, -List.getD_eq_getElem?_getD, ite_yes, ht, hu, hlt, hlti, hof, hki, hki2, hkn, n1, n2, n3, n4, n5]
      first | refine AAt.of (by first | exact SubH.refl | exact SubH.app | exact SubH.both (by simp [subL])) ?_ | (refine ⟨?_, AAt.of (by first | exact SubH.refl | exact SubH.app | exact SubH.both (by simp [subL])) ?_⟩; · omega)
      refine AAny.takes (fuel := 0) (by kernel_rfl) (by kernel_rfl) [12] (by kernel_rfl) (by kernel_rfl) ?_
      simp -dsimp -implicitDefEqProofs (disch := omega) [go_sem, -List.getD_eq_getElem?_getD, ite_yes, ht, hu, hlt, hlti, hof, hki, hki2, hkn, n1, n2, n3, n4, n5]
      refine AAny.done (by kernel_rfl) ?_
      simp -dsimp -implicitDefEqProofs (disch := omega) [go_sem, -List.getD_eq_getElem?_getD, ite_yes, ht, hu, hlt, hlti, hof, hki, hki2, hkn, n1, n2, n3, n4, n5]
      refine ⟨weakS_mk [some 5] rfl ?_ (by simp -dsimp -implicitDefEqProofs (disch := omega) [go_sem, -List.getD_eq_getElem?_getD, ite_yes, ht, hu, e4])⟩
      simp -dsimp -implicitDefEqProofs (disch := omega) [go_sem, -List.getD_eq_getElem?_getD, ite_yes, ht, hu, hlt, hlti, hof, n1, n2, n3, n4, n5]
      exact .inl ⟨ef, ef ▸ nmE_flat O'⟩
  simp -dsimp -implicitDefEqProofs (disch := omega) [go_sem, -List.getD_eq_getElem?_getD, ite_yes]
  refine LoopEnd.of (i + 1) (by omega) (by omega) (weakS_mk [some 0] rfl ?_ (by simp -dsimp -implicitDefEqProofs (disch := omega) [go_sem, -List.getD_eq_getElem?_getD, ite_yes, ht, hu]))
  rw [hO']
  simp -dsimp -implicitDefEqProofs (disch := omega) [go_sem, -List.getD_eq_getElem?_getD, ite_yes]
  exact .inl ⟨rfl, nmE_flat _⟩
end Go.Proofs.Yteojpgmclplggaa
