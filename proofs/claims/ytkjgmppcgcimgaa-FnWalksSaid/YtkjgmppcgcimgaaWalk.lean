/- Walks: the steps to tasks in an order; both sides. -/
import Derived.Test.YtkjgmppcgcimgaaSteps3
import Derived.Test.YtkjgmppcgcimgaaTasks
namespace Go.Proofs.Ytkjgmppcgcimgaa
open Go.Am
set_option linter.unusedVariables false
set_option linter.unusedSimpArgs false
set_option maxRecDepth 100000
set_option maxHeartbeats 2000000

theorem indexFuncTk_A (l : List Tk) (p : Tk → Bool) (g : Nat) (cap : Array Value) (hl : l.length ≤ 1048577) (c : Nat) (H : Heap) (t : Nat) (hS : Sl tkE H t l) (hc : L2 (WMP (sg H.length []) H.length) cap.toList cap.toList)
    (hp : ∀ k, k < l.length → AFunC Try.prog g (.agg #[.int .i64 (l.getD k (0, 0, 0)).1, .int .i64 (l.getD k (0, 0, 0)).2.1, .int .i64 (l.getD k (0, 0, 0)).2.2] :: cap.toList) H (.bool (p (l.getD k (0, 0, 0)))) H) :
    AFunC Try.prog 72 [.slice (some ⟨t, 0, none⟩) l.length c, .func (.func g) #[] cap] H (.int .i64 (ixOf p l)) H := by
  refine AFunC.of_body Try.func72 (by kernel_rfl) rfl (by kernel_rfl) (by simp [Try.ntmps72]) ?_
  have ht := hS.lt
  have cs := fun k hk => hS.cells (s := 3) (fun _ => rfl) (0, 0, 0) k hk
  simp only [tkE] at cs
  have hr := found_ix ((0, 0, 0) : Tk) p l
  simp -dsimp -implicitDefEqProofs (disch := omega) [go_sem, -List.getD_eq_getElem?_getD, ite_yes]
  refine ALoop.intro (ι := Nat) (fun k => k ≤ l.length ∧ findTo (0, 0, 0) p l k) (fun k => [(0, .slice (some ⟨t, 0, none⟩) l.length c), (1, .func (.func g) #[] cap), (7, .int .i64 l.length), (8, .int .i64 k)]) (fun _ => H) (fun k => l.length - k) 0 ⟨by omega, fun i hi => by omega⟩ ?_ ?_
  · exact weakS_same (by simp -dsimp -implicitDefEqProofs (disch := omega) [go_sem, -List.getD_eq_getElem?_getD, ite_yes, ht]; simpa using hc)
  · rintro k ⟨hk, hf⟩
    by_cases hlt : k < l.length
    · simp -dsimp -implicitDefEqProofs (disch := omega) [go_sem, -List.getD_eq_getElem?_getD, ite_yes, hlt, cs]
      refine ACall.of (hp k hlt) ?_
      simp -dsimp -implicitDefEqProofs (disch := omega) [go_sem, -List.getD_eq_getElem?_getD, ite_yes]
      refine AIf.of (fun h => ?_) (fun h => ?_)
      · simp -dsimp -implicitDefEqProofs (disch := omega) [go_sem, -List.getD_eq_getElem?_getD, ite_yes]
        have := found_uniq hr (.yes k hlt h hf)
        exact fin_flat0 rfl (by rw [this])
      · simp -dsimp -implicitDefEqProofs (disch := omega) [go_sem, -List.getD_eq_getElem?_getD, ite_yes]
        exact LoopEnd.of (k + 1) ⟨by omega, hf.next h⟩ (by omega) (weakS_same (by simp -dsimp -implicitDefEqProofs (disch := omega) [go_sem, -List.getD_eq_getElem?_getD, ite_yes, ht]; simpa using hc))
    · simp -dsimp -implicitDefEqProofs (disch := omega) [go_sem, -List.getD_eq_getElem?_getD, ite_yes, hlt]
      obtain rfl : k = l.length := by omega
      have := found_uniq hr (.no hf)
      exact fin_flat0 rfl (by rw [this])
theorem containsFuncTk_A (l : List Tk) (p : Tk → Bool) (g : Nat) (cap : Array Value) (hl : l.length ≤ 1048577) (c : Nat) (H : Heap) (t : Nat) (hS : Sl tkE H t l) (hc : L2 (WMP (sg H.length []) H.length) cap.toList cap.toList)
    (hp : ∀ k, k < l.length → AFunC Try.prog g (.agg #[.int .i64 (l.getD k (0, 0, 0)).1, .int .i64 (l.getD k (0, 0, 0)).2.1, .int .i64 (l.getD k (0, 0, 0)).2.2] :: cap.toList) H (.bool (p (l.getD k (0, 0, 0)))) H) :
    AFunC Try.prog 56 [.slice (some ⟨t, 0, none⟩) l.length c, .func (.func g) #[] cap] H (.bool (decide (0 ≤ ixOf p l))) H := by
  refine AFunC.of_body Try.func56 (by kernel_rfl) rfl (by kernel_rfl) (by simp [Try.ntmps56]) ?_
  simp -dsimp -implicitDefEqProofs (disch := omega) [go_sem, -List.getD_eq_getElem?_getD, ite_yes]
  refine ACall.of (indexFuncTk_A l p g cap hl c H t hS hc hp) ?_
  simp -dsimp -implicitDefEqProofs (disch := omega) [go_sem, -List.getD_eq_getElem?_getD, ite_yes]
  exact fin_flat0 rfl rfl
def nodeW (l : List Tk) (i : Int) : Int := (l.getD i.toNat (0, 0, 0)).2.1
def stepW (n : Nat) (ps : List Pp) (f to : Int) : Int := if inB to 1 n = true then distN n ps f to else -1
theorem stepW_rng (n : Nat) (ps : List Pp) (f to : Int) : -1 ≤ stepW n ps f to ∧ stepW n ps f to ≤ n := by
  have := distN_rng n ps f to
  unfold stepW
  split <;> omega
theorem stepW_in {n : Nat} {ps : List Pp} {f to : Int} (h : inB to 1 n = true) : stepW n ps f to = distN n ps f to := if_pos h
theorem stepW_out {n : Nat} {ps : List Pp} {f to : Int} (h : inB to 1 n = false) : stepW n ps f to = -1 := by rw [stepW, h]; rfl
def nextW (n : Nat) (ps : List Pp) (to : Int) (p : Int × Int) : Option (Int × Int) := if stepW n ps p.2 to < 0 then none else some (p.1 + stepW n ps p.2 to, to)
def wk (n : Nat) (ps : List Pp) (l : List Tk) (src : Int) (a : List Int) : Nat → Option (Int × Int)
  | 0 => some (0, src)
  | k + 1 => (wk n ps l src a k).bind (nextW n ps (nodeW l (a.getD k 0)))
section
variable {n : Nat} {ps : List Pp} {l : List Tk} {src : Int} {a : List Int}
theorem wk_none {k : Nat} (h : wk n ps l src a k = none) : ∀ j, wk n ps l src a (k + j) = none
  | 0 => h
  | j + 1 => by rw [← Nat.add_assoc, wk, wk_none h j]; rfl
theorem wk_le {k m : Nat} (h : wk n ps l src a k = none) (hm : k ≤ m) : wk n ps l src a m = none := by
  have := wk_none h (m - k)
  rwa [Nat.add_sub_cancel' hm] at this
theorem wk_stop {k : Nat} {s f : Int} (h : wk n ps l src a k = some (s, f)) (hs : stepW n ps f (nodeW l (a.getD k 0)) < 0) : wk n ps l src a (k + 1) = none := by
  rw [wk, h]
  exact if_pos hs
theorem wk_go {k : Nat} {s f : Int} (h : wk n ps l src a k = some (s, f)) (hs : ¬ stepW n ps f (nodeW l (a.getD k 0)) < 0) : wk n ps l src a (k + 1) = some (s + stepW n ps f (nodeW l (a.getD k 0)), nodeW l (a.getD k 0)) := by
  rw [wk, h]
  exact if_neg hs
theorem wk_rng (hs : 1 ≤ src ∧ src ≤ n) : ∀ k s f, wk n ps l src a k = some (s, f) → 0 ≤ s ∧ s ≤ n * k ∧ 1 ≤ f ∧ f ≤ n
  | 0, s, f, h => by
    simp only [wk, Option.some.injEq, Prod.mk.injEq] at h
    obtain ⟨rfl, rfl⟩ := h
    exact ⟨Int.le_refl _, by simp, hs⟩
  | k + 1, s, f, h => by
    cases e : wk n ps l src a k with
    | none => rw [wk_le e (Nat.le_succ k)] at h; cases h
    | some p =>
      obtain ⟨s0, f0⟩ := p
      have ih := wk_rng hs k s0 f0 e
      have r := stepW_rng n ps f0 (nodeW l (a.getD k 0))
      by_cases hlt : stepW n ps f0 (nodeW l (a.getD k 0)) < 0
      · rw [wk_stop e hlt] at h; cases h
      · rw [wk_go e hlt] at h
        simp only [Option.some.injEq, Prod.mk.injEq] at h
        obtain ⟨rfl, rfl⟩ := h
        have hin : inB (nodeW l (a.getD k 0)) 1 n = true := by
          cases hi : inB (nodeW l (a.getD k 0)) 1 n
          · rw [stepW_out hi] at hlt; omega
          · rfl
        simp only [inB, Bool.and_eq_true, decide_eq_true_eq] at hin
        have : (n : Int) * ((k + 1 : Nat) : Int) = n * k + n := by push_cast; rw [Int.mul_add, Int.mul_one]
        omega
/-- the steps of a walk, or -1 -/
def walkZ (n : Nat) (ps : List Pp) (l : List Tk) (src : Int) (a : List Int) : Int := match wk n ps l src a a.length with | some p => p.1 | none => -1
theorem walkZ_some {s f : Int} (h : wk n ps l src a a.length = some (s, f)) : walkZ n ps l src a = s := by rw [walkZ, h]
theorem walkZ_none (h : wk n ps l src a a.length = none) : walkZ n ps l src a = -1 := by rw [walkZ, h]
theorem walkZ_rng (hs : 1 ≤ src ∧ src ≤ n) : -1 ≤ walkZ n ps l src a ∧ walkZ n ps l src a ≤ n * a.length := by
  cases e : wk n ps l src a a.length with
  | none =>
    rw [walkZ_none e]
    have := Int.mul_nonneg (Int.natCast_nonneg n) (Int.natCast_nonneg a.length)
    omega
  | some p =>
    obtain ⟨s, f⟩ := p
    have := wk_rng hs _ _ _ e
    rw [walkZ_some e]; omega
end
def posZ (z : Int) : Int := if z < 0 then 0 else z
theorem posZ_neg {z : Int} (h : z < 0) : posZ z = 0 := if_pos h
theorem posZ_pos {z : Int} (h : ¬ z < 0) : posZ z = z := if_neg h
def AtOrd (m : Nat) (a : List Int) : Prop := a.length ≤ 7 ∧ ∀ k, k < a.length → 0 ≤ a.getD k 0 ∧ a.getD k 0 < m
theorem walkSteps_A (n : Nat) (ps : List Pp) (hN : NetAt n ps) (l : List Tk) (hT : ∀ i, i < l.length → 1 ≤ (l.getD i (0, 0, 0)).2.1 ∧ (l.getD i (0, 0, 0)).2.1 ≤ n) (src : Int) (hs : 1 ≤ src ∧ src ≤ n) (a : List Int) (ha : AtOrd l.length a) (cp c d : Nat) (H : Heap) (tp t u : Nat) (hP : Sl ppE H tp ps) (hS : Sl tkE H t l) (hU : Sl nmE H u a) :
    AFunC Try.prog 37 [netV n tp ps.length cp, .slice (some ⟨t, 0, none⟩) l.length c, .int .i64 src, .slice (some ⟨u, 0, none⟩) a.length d] H (.tuple #[.int .i64 (posZ (walkZ n ps l src a)), .bool (decide (0 ≤ walkZ n ps l src a))]) H := by
  refine AFunC.of_body Try.func37 (by kernel_rfl) rfl (by kernel_rfl) (by simp [Try.ntmps37]) ?_
  have htp := hP.lt
  have ht := hS.lt
  have hu := hU.lt
  have hn8 := hN.f_n
  obtain ⟨ha7, hat⟩ := ha
  have c1 := fun k hk => hS.cell (s := 3) (fun _ => rfl) (0, 0, 0) k 1 hk (by omega)
  have cu := fun k hk => hU.one (g := fun n => Value.int .i64 n) 0 k hk
  simp only [tkE] at c1
  simp -dsimp -implicitDefEqProofs (disch := omega) [go_sem, -List.getD_eq_getElem?_getD, ite_yes, htp, ht, hu]
  refine ALoop.intro (ι := (Int × Int) × Nat) (fun i => i.2 ≤ a.length ∧ wk n ps l src a i.2 = some i.1) (fun i => [(1, .slice (some ⟨t, 0, none⟩) l.length c), (2, .int .i64 i.1.2), (4, .pointer (some ⟨H.length, 0, none⟩)), (10, .int .i64 i.1.1), (14, .slice (some ⟨u, 0, none⟩) a.length d), (15, .int .i64 a.length), (16, .int .i64 i.2)])
    (fun _ => H ++ [some ⟨[.int .i64 n, .slice (some ⟨tp, 0, none⟩) ps.length cp], true, 32, 1⟩]) (fun i => a.length - i.2) ((0, src), 0) ⟨Nat.zero_le _, rfl⟩ ?_ ?_
  · refine weakS_mk [some 0] rfl ?_ (by simp -dsimp -implicitDefEqProofs (disch := omega) [go_sem, -List.getD_eq_getElem?_getD, ite_yes, htp, ht, hu])
    simp -dsimp -implicitDefEqProofs (disch := omega) [go_sem, -List.getD_eq_getElem?_getD, ite_yes, htp]
    exact wl_net htp
  rintro ⟨⟨s, f⟩, k⟩ ⟨hk, hw⟩
  simp only at hk hw
  have hr := wk_rng hs k s f hw
  have hnk : (n : Int) * k ≤ 8 * 7 := Int.mul_le_mul (by omega) (by omega) (by omega) (by omega)
  by_cases hlt : k < a.length
  rotate_left
  · obtain rfl : k = a.length := by omega
    rw [walkZ_some hw, posZ_pos (by omega), decide_eq_true hr.1]
    simp -dsimp -implicitDefEqProofs (disch := omega) [go_sem, -List.getD_eq_getElem?_getD, ite_yes, htp]
    exact fin_flat rfl rfl
  have hak := hat k hlt
  obtain ⟨q, hq⟩ : ∃ q : Nat, a.getD k 0 = (q : Int) := ⟨(a.getD k 0).toNat, by omega⟩
  have hql : q < l.length := by omega
  have hqi : (q : Int) < (l.length : Int) := by omega
  have cuk := cu k hlt
  rw [hq] at cuk
  have c1q := c1 q hql
  have hTq := hT q hql
  have hnd : nodeW l (a.getD k 0) = (l.getD q (0, 0, 0)).2.1 := by rw [hq, nodeW, Int.toNat_natCast]
  have hst : stepW n ps f (nodeW l (a.getD k 0)) = distN n ps f (l.getD q (0, 0, 0)).2.1 := by rw [hnd]; exact stepW_in (by simp only [inB, Bool.and_eq_true, decide_eq_true_eq]; exact hTq)
  generalize hto : (l.getD q (0, 0, 0)).2.1 = to at *
  obtain ⟨w, hw'⟩ : ∃ w : Nat, to = (w : Int) := ⟨to.toNat, by omega⟩
  have hwn : w < n + 1 := by omega
  have hwi : (w : Int) < (n : Int) + 1 := by omega
  have hdl := distL_length n ps f
  have hdf : ((distL n ps f).flatMap nmE).length = n + 1 := by rw [nmE_length, hdl, Nat.mul_one]
  have cd := nmx_cell (distL n ps f) (q := w) (by omega)
  have hdv : (distL n ps f).getD w 0 = distN n ps f w := by
    rw [distL, List.getD_eq_getElem?_getD, List.getElem?_map, List.getElem?_range (by omega)]; rfl
  rw [hdv] at cd
  rw [hw'] at hnd hst c1q
  have hdr := distN_rng n ps f w
  by_cases hneg : distN n ps f w < 0
  · have hz := walkZ_none (wk_le (wk_stop hw (by rw [hst]; exact hneg)) hlt)
    rw [hz, posZ_neg (by omega)]
    simp -dsimp -implicitDefEqProofs (disch := omega) [go_sem, -List.getD_eq_getElem?_getD, ite_yes, hlt, htp, ht, hu, cuk]
    refine ADraw.any H (by kernel_rfl) (by first | exact SubH.refl | exact SubH.app | exact SubH.both (by simp [subL])) ?_
    refine AAny.takes (fuel := 5) (by kernel_rfl) (by kernel_rfl) [1, 3, 4, 5, 6, 7] (by kernel_rfl) (by kernel_rfl) ?_
    simp -dsimp -implicitDefEqProofs (disch := omega) [go_sem, -List.getD_eq_getElem?_getD, ite_yes, htp, ht, hu, hql, hqi, c1q, hwn, hwi, hdf, cd, hneg]
    refine AAny.one 4 0 (by kernel_rfl) (by kernel_rfl) (by kernel_rfl) ?_
    simp -dsimp -implicitDefEqProofs (disch := omega) [go_sem, -List.getD_eq_getElem?_getD, ite_yes, htp, ht, hu, hql, hqi, c1q, hwn, hwi, hdf, cd, hneg]
    first | refine AAt.of (by first | exact SubH.refl | exact SubH.app | exact SubH.both (by simp [subL])) ?_ | (refine ⟨?_, AAt.of (by first | exact SubH.refl | exact SubH.app | exact SubH.both (by simp [subL])) ?_⟩; · omega)
    refine AAny.one 3 2 (by kernel_rfl) (by kernel_rfl) (by kernel_rfl) ?_
    simp -dsimp -implicitDefEqProofs (disch := omega) [go_sem, -List.getD_eq_getElem?_getD, ite_yes, htp, ht, hu, hql, hqi, c1q, hwn, hwi, hdf, cd, hneg]
    refine ACall.of (distances_A n ps hN f hr.2.2 cp _ tp hP.app) ?_
    simp -dsimp -implicitDefEqProofs (disch := omega) [go_sem, -List.getD_eq_getElem?_getD, ite_yes, htp, ht, hu, hql, hqi, c1q, hwn, hwi, hdf, cd, hneg]
    first | refine AAt.of (by first | exact SubH.refl | exact SubH.app | exact SubH.both (by simp [subL])) ?_ | (refine ⟨?_, AAt.of (by first | exact SubH.refl | exact SubH.app | exact SubH.both (by simp [subL])) ?_⟩; · omega)
    refine AAny.takes (fuel := 2) (by kernel_rfl) (by kernel_rfl) [8] (by kernel_rfl) (by kernel_rfl) ?_
    simp -dsimp -implicitDefEqProofs (disch := omega) [go_sem, -List.getD_eq_getElem?_getD, ite_yes, htp, ht, hu, hql, hqi, c1q, hwn, hwi, hdf, cd, hneg]
    refine AAny.one 1 9 (by kernel_rfl) (by kernel_rfl) (by kernel_rfl) ?_
    simp -dsimp -implicitDefEqProofs (disch := omega) [go_sem, -List.getD_eq_getElem?_getD, ite_yes, htp, ht, hu, hql, hqi, c1q, hwn, hwi, hdf, cd, hneg]
    first | refine AAt.of (by first | exact SubH.refl | exact SubH.app | exact SubH.both (by simp [subL])) ?_ | (refine ⟨?_, AAt.of (by first | exact SubH.refl | exact SubH.app | exact SubH.both (by simp [subL])) ?_⟩; · omega)
    refine AAny.takes (fuel := 0) (by kernel_rfl) (by kernel_rfl) [10] (by kernel_rfl) (by kernel_rfl) ?_
    simp -dsimp -implicitDefEqProofs (disch := omega) [go_sem, -List.getD_eq_getElem?_getD, ite_yes, htp, ht, hu, hql, hqi, c1q, hwn, hwi, hdf, cd, hneg]
    refine AAny.done (by kernel_rfl) ?_
    simp -dsimp -implicitDefEqProofs (disch := omega) [go_sem, -List.getD_eq_getElem?_getD, ite_yes, htp, ht, hu, hql, hqi, c1q, hwn, hwi, hdf, cd, hneg]
    exact fin_flat rfl rfl
  · have hgo := wk_go hw (by rw [hst]; exact hneg)
    rw [hst, hnd] at hgo
    simp -dsimp -implicitDefEqProofs (disch := omega) [go_sem, -List.getD_eq_getElem?_getD, ite_yes, hlt, htp, ht, hu, cuk]
    refine ADraw.any H (by kernel_rfl) (by first | exact SubH.refl | exact SubH.app | exact SubH.both (by simp [subL])) ?_
    refine AAny.takes (fuel := 5) (by kernel_rfl) (by kernel_rfl) [1, 3, 4, 5, 6, 7] (by kernel_rfl) (by kernel_rfl) ?_
    simp -dsimp -implicitDefEqProofs (disch := omega) [go_sem, -List.getD_eq_getElem?_getD, ite_yes, htp, ht, hu, hql, hqi, c1q, hwn, hwi, hdf, cd, hneg]
    refine AAny.one 4 0 (by kernel_rfl) (by kernel_rfl) (by kernel_rfl) ?_
    simp -dsimp -implicitDefEqProofs (disch := omega) [go_sem, -List.getD_eq_getElem?_getD, ite_yes, htp, ht, hu, hql, hqi, c1q, hwn, hwi, hdf, cd, hneg]
    first | refine AAt.of (by first | exact SubH.refl | exact SubH.app | exact SubH.both (by simp [subL])) ?_ | (refine ⟨?_, AAt.of (by first | exact SubH.refl | exact SubH.app | exact SubH.both (by simp [subL])) ?_⟩; · omega)
    refine AAny.one 3 2 (by kernel_rfl) (by kernel_rfl) (by kernel_rfl) ?_
    simp -dsimp -implicitDefEqProofs (disch := omega) [go_sem, -List.getD_eq_getElem?_getD, ite_yes, htp, ht, hu, hql, hqi, c1q, hwn, hwi, hdf, cd, hneg]
    refine ACall.of (distances_A n ps hN f hr.2.2 cp _ tp hP.app) ?_
    simp -dsimp -implicitDefEqProofs (disch := omega) [go_sem, -List.getD_eq_getElem?_getD, ite_yes, htp, ht, hu, hql, hqi, c1q, hwn, hwi, hdf, cd, hneg]
    first | refine AAt.of (by first | exact SubH.refl | exact SubH.app | exact SubH.both (by simp [subL])) ?_ | (refine ⟨?_, AAt.of (by first | exact SubH.refl | exact SubH.app | exact SubH.both (by simp [subL])) ?_⟩; · omega)
    refine AAny.takes (fuel := 2) (by kernel_rfl) (by kernel_rfl) [8] (by kernel_rfl) (by kernel_rfl) ?_
    simp -dsimp -implicitDefEqProofs (disch := omega) [go_sem, -List.getD_eq_getElem?_getD, ite_yes, htp, ht, hu, hql, hqi, c1q, hwn, hwi, hdf, cd, hneg]
    refine AAny.one 1 9 (by kernel_rfl) (by kernel_rfl) (by kernel_rfl) ?_
    simp -dsimp -implicitDefEqProofs (disch := omega) [go_sem, -List.getD_eq_getElem?_getD, ite_yes, htp, ht, hu, hql, hqi, c1q, hwn, hwi, hdf, cd, hneg]
    first | refine AAt.of (by first | exact SubH.refl | exact SubH.app | exact SubH.both (by simp [subL])) ?_ | (refine ⟨?_, AAt.of (by first | exact SubH.refl | exact SubH.app | exact SubH.both (by simp [subL])) ?_⟩; · omega)
    refine AAny.takes (fuel := 0) (by kernel_rfl) (by kernel_rfl) [10] (by kernel_rfl) (by kernel_rfl) ?_
    simp -dsimp -implicitDefEqProofs (disch := omega) [go_sem, -List.getD_eq_getElem?_getD, ite_yes, htp, ht, hu, hql, hqi, c1q, hwn, hwi, hdf, cd, hneg]
    refine AAny.done (by kernel_rfl) ?_
    simp -dsimp -implicitDefEqProofs (disch := omega) [go_sem, -List.getD_eq_getElem?_getD, ite_yes, htp, ht, hu, hql, hqi, c1q, hwn, hwi, hdf, cd, hneg]
    refine LoopEnd.of ((s + distN n ps f w, (w : Int)), k + 1) ⟨hlt, hgo⟩ (by simp only; omega) (weakS_mk [some 0] rfl ?_ (by simp -dsimp -implicitDefEqProofs (disch := omega) [go_sem, -List.getD_eq_getElem?_getD, ite_yes, htp, ht, hu]))
    simp -dsimp -implicitDefEqProofs (disch := omega) [go_sem, -List.getD_eq_getElem?_getD, ite_yes, htp]
    exact wl_net htp
theorem l22Walk_A (n : Nat) (ps : List Pp) (hg : goodN n ps = true) (l : List Tk) (src : Int) (hs : 1 ≤ src ∧ src ≤ n) (a : List Int) (ha : AtOrd l.length a) (cp c d : Nat) (H : Heap) (tp t u : Nat) (hP : Sl ppE H tp ps) (hS : Sl tkE H t l) (hU : Sl nmE H u a) :
    AFunC Try.prog 32 [netV n tp ps.length cp, .slice (some ⟨t, 0, none⟩) l.length c, .int .i64 src, .slice (some ⟨u, 0, none⟩) a.length d] H (.int .i64 (walkZ n ps l src a)) H := by
  refine AFunC.of_body Try.func32 (by kernel_rfl) rfl (by kernel_rfl) (by simp [Try.ntmps32]) ?_
  have hN := NetAt.of hg
  have htp := hP.lt
  have ht := hS.lt
  have hu := hU.lt
  have hn8 := hN.f_n
  have hm := hN.f_len
  obtain ⟨ha7, hat⟩ := ha
  have c1 := fun k hk => hS.cell (s := 3) (fun _ => rfl) (0, 0, 0) k 1 hk (by omega)
  have cu := fun k hk => hU.one (g := fun n => Value.int .i64 n) 0 k hk
  simp only [tkE] at c1
  simp -dsimp -implicitDefEqProofs (disch := omega) [go_sem, -List.getD_eq_getElem?_getD, ite_yes, htp, ht, hu]
  refine ALoop.intro (ι := (Int × Int) × Nat) (fun i => i.2 ≤ a.length ∧ wk n ps l src a i.2 = some i.1) (fun i => [(1, .slice (some ⟨t, 0, none⟩) l.length c), (2, .int .i64 i.1.2), (3, .slice (some ⟨u, 0, none⟩) a.length d), (4, .pointer (some ⟨H.length, 0, none⟩)), (9, .int .i64 i.1.1), (10, .int .i64 i.2)])
    (fun _ => H ++ [some ⟨[.int .i64 n, .slice (some ⟨tp, 0, none⟩) ps.length cp], true, 32, 1⟩]) (fun i => a.length - i.2) ((0, src), 0) ⟨Nat.zero_le _, rfl⟩ ?_ ?_
  · refine weakS_mk [some 0] rfl ?_ (by simp -dsimp -implicitDefEqProofs (disch := omega) [go_sem, -List.getD_eq_getElem?_getD, ite_yes, htp, ht, hu])
    simp -dsimp -implicitDefEqProofs (disch := omega) [go_sem, -List.getD_eq_getElem?_getD, ite_yes, htp]
    exact wl_net htp
  rintro ⟨⟨s, f⟩, k⟩ ⟨hk, hw⟩
  simp only at hk hw
  have hr := wk_rng hs k s f hw
  have hnk : (n : Int) * k ≤ 8 * 7 := Int.mul_le_mul (by omega) (by omega) (by omega) (by omega)
  by_cases hlt : k < a.length
  rotate_left
  · obtain rfl : k = a.length := by omega
    rw [walkZ_some hw]
    simp -dsimp -implicitDefEqProofs (disch := omega) [go_sem, -List.getD_eq_getElem?_getD, ite_yes, htp]
    exact fin_flat rfl rfl
  have hak := hat k hlt
  obtain ⟨q, hq⟩ : ∃ q : Nat, a.getD k 0 = (q : Int) := ⟨(a.getD k 0).toNat, by omega⟩
  have hql : q < l.length := by omega
  have hqi : (q : Int) < (l.length : Int) := by omega
  have cuk := cu k hlt
  rw [hq] at cuk
  have c1q := c1 q hql
  have hnd : nodeW l (a.getD k 0) = (l.getD q (0, 0, 0)).2.1 := by rw [hq, nodeW, Int.toNat_natCast]
  generalize hto : (l.getD q (0, 0, 0)).2.1 = to at *
  have hdr := distN_rng n ps f to
  simp -dsimp -implicitDefEqProofs (disch := omega) [go_sem, -List.getD_eq_getElem?_getD, ite_yes, hlt, htp, ht, hu, cuk, hqi, hql, c1q]
  refine ACall.of (l2Node_A n ps (by omega) cp to _ tp hP.app) ?_
  rw [hg, Bool.true_and]
  cases hin : inB to 1 n
  · have hst : stepW n ps f (nodeW l (a.getD k 0)) = -1 := by rw [hnd]; exact stepW_out hin
    have hz := walkZ_none (wk_le (wk_stop hw (by rw [hst]; omega)) hlt)
    rw [hz]
    simp -dsimp -implicitDefEqProofs (disch := omega) [go_sem, -List.getD_eq_getElem?_getD, ite_yes, htp]
    exact fin_flat rfl rfl
  have hst : stepW n ps f (nodeW l (a.getD k 0)) = distN n ps f to := by rw [hnd]; exact stepW_in hin
  simp -dsimp -implicitDefEqProofs (disch := omega) [go_sem, -List.getD_eq_getElem?_getD, ite_yes, htp]
  refine ACall.of (l22Steps_A n ps hN f to cp _ tp hP.app) ?_
  by_cases hneg : distN n ps f to < 0
  · have hz := walkZ_none (wk_le (wk_stop hw (by rw [hst]; exact hneg)) hlt)
    rw [hz]
    simp -dsimp -implicitDefEqProofs (disch := omega) [go_sem, -List.getD_eq_getElem?_getD, ite_yes, htp, hneg]
    exact fin_flat rfl rfl
  · have hgo := wk_go hw (by rw [hst]; exact hneg)
    rw [hst, hnd] at hgo
    simp -dsimp -implicitDefEqProofs (disch := omega) [go_sem, -List.getD_eq_getElem?_getD, ite_yes, htp, hneg]
    refine LoopEnd.of ((s + distN n ps f to, to), k + 1) ⟨hlt, hgo⟩ (by simp only; omega) (weakS_mk [some 0] rfl ?_ (by simp -dsimp -implicitDefEqProofs (disch := omega) [go_sem, -List.getD_eq_getElem?_getD, ite_yes, htp, ht, hu]))
    simp -dsimp -implicitDefEqProofs (disch := omega) [go_sem, -List.getD_eq_getElem?_getD, ite_yes, htp]
    exact wl_net htp
def ordL (k : Nat) : List Int := (List.range k).map fun i : Nat => (i : Int)
theorem ordL_length (k : Nat) : (ordL k).length = k := by simp [ordL]
theorem ordL_succ (k : Nat) : ordL (k + 1) = ordL k ++ [(k : Int)] := by simp [ordL, List.range_succ]
theorem ordL_getD {k i : Nat} (h : i < k) : (ordL k).getD i 0 = i := by
  rw [ordL, List.getD_eq_getElem?_getD, List.getElem?_map, List.getElem?_range h]; rfl
theorem ordL_at {m : Nat} (h : m ≤ 7) : AtOrd m (ordL m) := ⟨by rw [ordL_length]; exact h, fun k hk => by rw [ordL_length] at hk; rw [ordL_getD hk]; omega⟩
theorem l22Order_A (l : List Tk) (hl : l.length ≤ 1048577) (c : Nat) (H : Heap) (t : Nat) (ht : t < H.length) :
    AFunC Try.prog 33 [.slice (some ⟨t, 0, none⟩) l.length c] H (.slice (some ⟨H.length, 0, none⟩) (ordL l.length).length (ordL l.length).length) (H ++ [some ⟨(ordL l.length).flatMap nmE, true, 3, 1⟩]) := by
  refine AFunC.of_body Try.func33 (by kernel_rfl) rfl (by kernel_rfl) (by simp [Try.ntmps33]) ?_
  simp -dsimp -implicitDefEqProofs (disch := omega) [go_sem, -List.getD_eq_getElem?_getD, ite_yes, ht]
  refine ALoop.intro (ι := Nat) (fun k => k ≤ l.length) (fun k => [(0, .slice (some ⟨t, 0, none⟩) l.length c), (3, .slice (some ⟨H.length, 0, none⟩) (ordL k).length (ordL k).length), (4, .int .i64 k)])
    (fun k => H ++ [some ⟨(ordL k).flatMap nmE, true, 3, 1⟩]) (fun k => l.length - k) 0 (Nat.zero_le _) ?_ ?_
  · refine weakS_mk [some 0] rfl ?_ (by simp -dsimp -implicitDefEqProofs (disch := omega) [go_sem, -List.getD_eq_getElem?_getD, ite_yes, ht]; rfl)
    simp -dsimp -implicitDefEqProofs (disch := omega) [go_sem, -List.getD_eq_getElem?_getD, ite_yes]
    exact .inl ⟨rfl, rfl⟩
  intro k hk
  have ol := ordL_length k
  have fl : ((ordL k).flatMap nmE).length = k := by rw [nmE_length, ol, Nat.mul_one]
  by_cases hlt : k < l.length
  rotate_left
  · obtain rfl : k = l.length := by omega
    simp -dsimp -implicitDefEqProofs (disch := omega) [go_sem, -List.getD_eq_getElem?_getD, ite_yes, ht]
    refine fin_list [some 0] rfl ?_ (by simp -dsimp -implicitDefEqProofs (disch := omega) [go_sem, -List.getD_eq_getElem?_getD, ite_yes])
    simp -dsimp -implicitDefEqProofs (disch := omega) [go_sem, -List.getD_eq_getElem?_getD, ite_yes]
    exact .inl ⟨rfl, nmE_flat _⟩
  · have e : (ordL (k + 1)).flatMap nmE = (ordL k).flatMap nmE ++ [.int .i64 (k : Int)] := by rw [ordL_succ, List.flatMap_append]; rfl
    have ol1 := ordL_length (k + 1)
    simp -dsimp -implicitDefEqProofs (disch := omega) [go_sem, -List.getD_eq_getElem?_getD, ite_yes, hlt, ht, ol, fl]
    refine ⟨by omega, LoopEnd.of (k + 1) hlt (by omega) (weakS_mk [some 2] rfl ?_ (by simp -dsimp -implicitDefEqProofs (disch := omega) [go_sem, -List.getD_eq_getElem?_getD, ite_yes, ht, ol1]))⟩
    simp -dsimp -implicitDefEqProofs (disch := omega) [go_sem, -List.getD_eq_getElem?_getD, ite_yes]
    exact .inl ⟨e, e ▸ nmE_flat _⟩
def outTk (n : Int) (r : Tk) : Bool := !inB r.2.1 1 n
/-- the walk's steps, or -1 -/
def resW (n : Int) (ps : List Pp) (l : List Tk) (src : Int) : Int := if goodN n ps = true ∧ goodT l = true ∧ inB src 1 n = true then walkZ n.toNat ps l src (ordL l.length) else -1
theorem resW_no {n : Int} {ps : List Pp} {l : List Tk} {src : Int} (h : goodN n ps = false ∨ goodT l = false ∨ inB src 1 n = false) : resW n ps l src = -1 := by
  unfold resW
  rw [if_neg]
  rintro ⟨h1, h2, h3⟩
  rw [h1, h2, h3] at h
  simp at h
theorem resW_out {n : Nat} {ps : List Pp} {l : List Tk} {src : Int} (h : ∃ i, i < l.length ∧ outTk n (l.getD i (0, 0, 0)) = true) : resW n ps l src = -1 := by
  unfold resW
  split
  · obtain ⟨i, hi, ho⟩ := h
    rw [Int.toNat_natCast]
    apply walkZ_none
    apply wk_le (k := i + 1) _ (by rw [ordL_length]; exact hi)
    cases e : wk n ps l src (ordL l.length) i with
    | none => exact wk_le e (Nat.le_succ i)
    | some p =>
      obtain ⟨s, f⟩ := p
      have : nodeW l ((ordL l.length).getD i 0) = (l.getD i (0, 0, 0)).2.1 := by rw [ordL_getD hi, nodeW, Int.toNat_natCast]
      exact wk_stop e (by rw [this, stepW_out (by simpa [outTk] using ho)]; omega)
  · rfl
theorem resW_good {n : Nat} {ps : List Pp} {l : List Tk} {src : Int} (h1 : goodN n ps = true) (h2 : goodT l = true) (h3 : inB src 1 n = true) : resW n ps l src = walkZ n ps l src (ordL l.length) := by
  rw [resW, if_pos ⟨h1, h2, h3⟩, Int.toNat_natCast]
theorem resW_rng (n : Int) (ps : List Pp) (l : List Tk) (src : Int) : -1 ≤ resW n ps l src ∧ resW n ps l src ≤ 56 := by
  unfold resW
  split
  · rename_i h
    obtain ⟨h1, h2, h3⟩ := h
    have hn := (NetAt.of h1).f_n
    obtain ⟨m, rfl⟩ : ∃ m : Nat, n = (m : Int) := ⟨n.toNat, by omega⟩
    simp only [inB, Bool.and_eq_true, decide_eq_true_eq] at h3
    rw [Int.toNat_natCast]
    have := walkZ_rng (n := m) (ps := ps) (l := l) (a := ordL l.length) h3
    have h7 := (goodT_at h2).1
    rw [ordL_length] at this
    have : (m : Int) * (l.length : Int) ≤ 8 * 7 := Int.mul_le_mul (by omega) (by omega) (by omega) (by omega)
    omega
  · omega
def cwB (n : Int) (ps : List Pp) (l : List Tk) (src : Int) : Bool := (goodN n ps && inB src 1 n) && goodT l && !decide (0 ≤ ixOf (outTk n) l)
theorem hasNode_A (n : Int) (ps : List Pp) (hps : ps.length ≤ 1048577) (cp : Nat) (node : Int) (H : Heap) (tp : Nat) (hP : Sl ppE H tp ps) :
    AFunC Try.prog 55 [netV n tp ps.length cp, .int .i64 node] H (.bool (goodN n ps && inB node 1 n)) H := by
  refine AFunC.of_body Try.func55 (by kernel_rfl) rfl (by kernel_rfl) (by simp [Try.ntmps55]) ?_
  have htp := hP.lt
  simp -dsimp -implicitDefEqProofs (disch := omega) [go_sem, -List.getD_eq_getElem?_getD, ite_yes, htp]
  refine ACall.of (iValidNetwork_A n ps hps cp _ tp hP.app) ?_
  cases hg : goodN n ps
  · simp -dsimp -implicitDefEqProofs (disch := omega) [go_sem, -List.getD_eq_getElem?_getD, ite_yes, htp]
    exact fin_flat rfl rfl
  · simp -dsimp -implicitDefEqProofs (disch := omega) [go_sem, -List.getD_eq_getElem?_getD, ite_yes, htp]
    refine ACall.of (nHas_A n tp ps.length cp node _) ?_
    simp -dsimp -implicitDefEqProofs (disch := omega) [go_sem, -List.getD_eq_getElem?_getD, ite_yes, htp]
    exact fin_flat rfl rfl
theorem outTk_A (r : Tk) (n : Int) (tp m cp : Nat) (H : Heap) (u : Nat) (hl : u < H.length) (htp : tp < H.length) (hu : aCells H ⟨u, 0, none⟩ 2 = some [.int .i64 n, .slice (some ⟨tp, 0, none⟩) m cp]) : AFunC Try.prog 57 [.agg #[.int .i64 r.1, .int .i64 r.2.1, .int .i64 r.2.2], .pointer (some ⟨u, 0, none⟩)] H (.bool (outTk n r)) H := by
  refine AFunC.of_body Try.func57 (by kernel_rfl) rfl (by kernel_rfl) (by simp [Try.ntmps57]) ?_
  simp -dsimp -implicitDefEqProofs (disch := omega) [go_sem, -List.getD_eq_getElem?_getD, ite_yes, hl, hu, htp]
  refine ACall.of (nHas_A n tp m cp r.2.1 _) ?_
  simp -dsimp -implicitDefEqProofs (disch := omega) [go_sem, -List.getD_eq_getElem?_getD, ite_yes]
  exact fin_flat rfl rfl
theorem canWalk_A (n : Int) (ps : List Pp) (hps : ps.length ≤ 1048577) (cp : Nat) (l : List Tk) (hl : l.length ≤ 1048577) (c : Nat) (src : Int) (H : Heap) (tp t : Nat) (hP : Sl ppE H tp ps) (hS : Sl tkE H t l) :
    AFunC Try.prog 36 [netV n tp ps.length cp, .slice (some ⟨t, 0, none⟩) l.length c, .int .i64 src] H (.bool (cwB n ps l src)) H := by
  refine AFunC.of_body Try.func36 (by kernel_rfl) rfl (by kernel_rfl) (by simp [Try.ntmps36]) ?_
  have htp := hP.lt
  have ht := hS.lt
  simp -dsimp -implicitDefEqProofs (disch := omega) [go_sem, -List.getD_eq_getElem?_getD, ite_yes, htp, ht]
  refine ACall.of (hasNode_A n ps hps cp src _ tp hP.app) ?_
  cases h1 : goodN n ps && inB src 1 n
  · simp -dsimp -implicitDefEqProofs (disch := omega) [go_sem, -List.getD_eq_getElem?_getD, ite_yes, htp, ht]
    exact fin_flat rfl (by rw [cwB, h1]; rfl)
  simp -dsimp -implicitDefEqProofs (disch := omega) [go_sem, -List.getD_eq_getElem?_getD, ite_yes, htp, ht]
  refine ACall.of (iValidTasks_A l hl c _ t hS.app) ?_
  cases h2 : goodT l
  · simp -dsimp -implicitDefEqProofs (disch := omega) [go_sem, -List.getD_eq_getElem?_getD, ite_yes, htp, ht]
    exact fin_flat rfl (by rw [cwB, h1, h2]; rfl)
  simp -dsimp -implicitDefEqProofs (disch := omega) [go_sem, -List.getD_eq_getElem?_getD, ite_yes, htp, ht]
  refine ACall.of (containsFuncTk_A l (outTk n) 57 #[.pointer (some ⟨H.length, 0, none⟩)] hl c _ t hS.app (by simp [L2, WMP, sg]) (fun k hk => outTk_A _ n tp ps.length cp _ _ (by simp) (by simp; omega) (by rw [aCells_at0]; rfl))) ?_
  simp -dsimp -implicitDefEqProofs (disch := omega) [go_sem, -List.getD_eq_getElem?_getD, ite_yes, htp, ht]
  exact fin_flat rfl (by rw [cwB, h1, h2]; rfl)
theorem cwB_yes {n : Int} {ps : List Pp} {l : List Tk} {src : Int} (h : cwB n ps l src = true) : goodN n ps = true ∧ goodT l = true ∧ inB src 1 n = true ∧ ∀ i, i < l.length → 1 ≤ (l.getD i (0, 0, 0)).2.1 ∧ (l.getD i (0, 0, 0)).2.1 ≤ n := by
  simp only [cwB, Bool.and_eq_true, Bool.not_eq_true', decide_eq_false_iff_not] at h
  obtain ⟨⟨⟨h1, h2⟩, h3⟩, h4⟩ := h
  refine ⟨h1, h3, h2, fun i hi => ?_⟩
  rcases ix_cases ((0, 0, 0) : Tk) (outTk n) l with ⟨e, h⟩ | ⟨q, e, _⟩
  · have := h i hi
    simp only [outTk, Bool.not_eq_false', inB, Bool.and_eq_true, decide_eq_true_eq] at this
    exact this
  · rw [e] at h4; omega
theorem cwB_no {n : Int} {ps : List Pp} {l : List Tk} {src : Int} (h : cwB n ps l src = false) : resW n ps l src = -1 := by
  cases h1 : goodN n ps
  · exact resW_no (.inl h1)
  cases h2 : goodT l
  · exact resW_no (.inr (.inl h2))
  cases h3 : inB src 1 n
  · exact resW_no (.inr (.inr h3))
  simp only [cwB, h1, h2, h3, Bool.and_self, Bool.true_and, Bool.not_eq_false', decide_eq_true_eq] at h
  have hn := (NetAt.of h1).f_n
  obtain ⟨m, rfl⟩ : ∃ m : Nat, n = (m : Int) := ⟨n.toNat, by omega⟩
  rcases ix_cases ((0, 0, 0) : Tk) (outTk m) l with ⟨e, _⟩ | ⟨q, e, hq, ho, _⟩
  · rw [e] at h; omega
  · exact resW_out ⟨q, hq, ho⟩
theorem iWalkSteps_A (n : Int) (ps : List Pp) (hps : ps.length ≤ 1048577) (cp : Nat) (l : List Tk) (hl : l.length ≤ 1048577) (c : Nat) (src : Int) (H : Heap) (tp t : Nat) (hP : Sl ppE H tp ps) (hS : Sl tkE H t l) :
    AFunC Try.prog 11 [netV n tp ps.length cp, .slice (some ⟨t, 0, none⟩) l.length c, .int .i64 src] H (.tuple #[.int .i64 (posZ (resW n ps l src)), .bool (decide (0 ≤ resW n ps l src))]) H := by
  refine AFunC.of_body Try.func11 (by kernel_rfl) rfl (by kernel_rfl) (by simp [Try.ntmps11]) ?_
  have htp := hP.lt
  have ht := hS.lt
  simp -dsimp -implicitDefEqProofs (disch := omega) [go_sem, -List.getD_eq_getElem?_getD, ite_yes, htp, ht]
  refine ACall.of (canWalk_A n ps hps cp l hl c src _ tp t hP.app hS.app) ?_
  cases hcw : cwB n ps l src
  · rw [cwB_no hcw, posZ_neg (by omega)]
    simp -dsimp -implicitDefEqProofs (disch := omega) [go_sem, -List.getD_eq_getElem?_getD, ite_yes, htp, ht]
    exact fin_flat rfl rfl
  obtain ⟨h1, h2, h3, h4⟩ := cwB_yes hcw
  have hN := NetAt.of h1
  have hn := hN.f_n
  obtain ⟨m, rfl⟩ : ∃ m : Nat, n = (m : Int) := ⟨n.toNat, by omega⟩
  rw [resW_good h1 h2 h3]
  simp only [inB, Bool.and_eq_true, decide_eq_true_eq] at h3
  have h7 := (goodT_at h2).1
  simp -dsimp -implicitDefEqProofs (disch := omega) [go_sem, -List.getD_eq_getElem?_getD, ite_yes, htp, ht]
  refine ALoop.intro (ι := Nat) (fun k => k ≤ l.length) (fun k => [(1, .slice (some ⟨t, 0, none⟩) l.length c), (2, .int .i64 src), (3, .pointer (some ⟨H.length, 0, none⟩)), (8, .slice (some ⟨H.length + 1, 0, none⟩) (ordL k).length (ordL k).length), (17, .int .i64 l.length), (18, .int .i64 k)])
    (fun k => H ++ [some ⟨[.int .i64 m, .slice (some ⟨tp, 0, none⟩) ps.length cp], true, 32, 1⟩, some ⟨(ordL k).flatMap nmE, true, 3, 1⟩]) (fun k => l.length - k) 0 (Nat.zero_le _) ?_ ?_
  · refine weakS_mk [some 0, some 1] rfl ?_ (by simp -dsimp -implicitDefEqProofs (disch := omega) [go_sem, -List.getD_eq_getElem?_getD, ite_yes, htp, ht]; rfl)
    simp -dsimp -implicitDefEqProofs (disch := omega) [go_sem, -List.getD_eq_getElem?_getD, ite_yes, htp]
    exact ⟨wl_net htp, .inl ⟨rfl, rfl⟩⟩
  intro k hk
  have ol := ordL_length k
  have fl : ((ordL k).flatMap nmE).length = k := by rw [nmE_length, ol, Nat.mul_one]
  by_cases hlt : k < l.length
  rotate_left
  · obtain rfl : k = l.length := by omega
    simp -dsimp -implicitDefEqProofs (disch := omega) [go_sem, -List.getD_eq_getElem?_getD, ite_yes, htp, ht]
    refine ACall.of (walkSteps_A m ps hN l h4 src h3 (ordL l.length) (ordL_at h7) cp c _ _ tp t _ hP.app hS.app (Sl.nth 1 rfl rfl)) ?_
    simp -dsimp -implicitDefEqProofs (disch := omega) [go_sem, -List.getD_eq_getElem?_getD, ite_yes, htp, ht]
    exact fin_flat rfl rfl
  · have e : (ordL (k + 1)).flatMap nmE = (ordL k).flatMap nmE ++ [.int .i64 (k : Int)] := by rw [ordL_succ, List.flatMap_append]; rfl
    have ol1 := ordL_length (k + 1)
    simp -dsimp -implicitDefEqProofs (disch := omega) [go_sem, -List.getD_eq_getElem?_getD, ite_yes, hlt, htp, ht, ol, fl]
    refine ⟨by omega, LoopEnd.of (k + 1) hlt (by omega) (weakS_mk [some 0, some 3] rfl ?_ (by simp -dsimp -implicitDefEqProofs (disch := omega) [go_sem, -List.getD_eq_getElem?_getD, ite_yes, htp, ht, ol1]))⟩
    simp -dsimp -implicitDefEqProofs (disch := omega) [go_sem, -List.getD_eq_getElem?_getD, ite_yes, htp]
    exact ⟨wl_net htp, .inl ⟨e, e ▸ nmE_flat _⟩⟩
theorem sWalkSteps_A (n : Int) (ps : List Pp) (hps : ps.length ≤ 1048577) (cp : Nat) (l : List Tk) (hl : l.length ≤ 1048577) (c : Nat) (src : Int) (H : Heap) (tp t : Nat) (hP : Sl ppE H tp ps) (hS : Sl tkE H t l) :
    AFunC Try.prog 8 [netV n tp ps.length cp, .slice (some ⟨t, 0, none⟩) l.length c, .int .i64 src] H (.tuple #[.int .i64 (posZ (resW n ps l src)), .bool (decide (0 ≤ resW n ps l src))]) H := by
  refine AFunC.of_body Try.func8 (by kernel_rfl) rfl (by kernel_rfl) (by simp [Try.ntmps8]) ?_
  have htp := hP.lt
  have ht := hS.lt
  simp -dsimp -implicitDefEqProofs (disch := omega) [go_sem, -List.getD_eq_getElem?_getD, ite_yes, htp, ht]
  refine ACall.of (l2Good_A n ps hps cp _ tp hP.app) ?_
  cases h1 : goodN n ps
  · rw [resW_no (.inl h1), posZ_neg (by omega)]
    simp -dsimp -implicitDefEqProofs (disch := omega) [go_sem, -List.getD_eq_getElem?_getD, ite_yes, htp, ht]
    exact fin_flat rfl rfl
  simp -dsimp -implicitDefEqProofs (disch := omega) [go_sem, -List.getD_eq_getElem?_getD, ite_yes, htp, ht]
  refine ACall.of (l22Good_A l hl c _ t hS.app) ?_
  cases h2 : goodT l
  · rw [resW_no (.inr (.inl h2)), posZ_neg (by omega)]
    simp -dsimp -implicitDefEqProofs (disch := omega) [go_sem, -List.getD_eq_getElem?_getD, ite_yes, htp, ht]
    exact fin_flat rfl rfl
  simp -dsimp -implicitDefEqProofs (disch := omega) [go_sem, -List.getD_eq_getElem?_getD, ite_yes, htp, ht]
  refine ACall.of (l2Node_A n ps hps cp src _ tp hP.app) ?_
  rw [h1, Bool.true_and]
  cases h3 : inB src 1 n
  · rw [resW_no (.inr (.inr h3)), posZ_neg (by omega)]
    simp -dsimp -implicitDefEqProofs (disch := omega) [go_sem, -List.getD_eq_getElem?_getD, ite_yes, htp, ht]
    exact fin_flat rfl rfl
  have hN := NetAt.of h1
  have hn := hN.f_n
  obtain ⟨m, rfl⟩ : ∃ m : Nat, n = (m : Int) := ⟨n.toNat, by omega⟩
  rw [resW_good h1 h2 h3]
  simp only [inB, Bool.and_eq_true, decide_eq_true_eq] at h3
  have h7 := (goodT_at h2).1
  have hwr := walkZ_rng (n := m) (ps := ps) (l := l) (a := ordL l.length) h3
  by_cases hneg : walkZ m ps l src (ordL l.length) < 0
  · have hd : decide (0 ≤ walkZ m ps l src (ordL l.length)) = false := decide_eq_false (by omega)
    rw [posZ_neg hneg, hd]
    simp -dsimp -implicitDefEqProofs (disch := omega) [go_sem, -List.getD_eq_getElem?_getD, ite_yes, htp, ht]
    refine ADraw.any H (by kernel_rfl) (by first | exact SubH.refl | exact SubH.app | exact SubH.both (by simp [subL])) ?_
    refine AAny.takes (fuel := 4) (by kernel_rfl) (by kernel_rfl) [1, 2, 3] (by kernel_rfl) (by kernel_rfl) ?_
    simp -dsimp -implicitDefEqProofs (disch := omega) [go_sem, -List.getD_eq_getElem?_getD, ite_yes, htp, ht, hneg]
    refine AAny.two 3 0 4 (by kernel_rfl) (by kernel_rfl) (by kernel_rfl) ?_ ?_
    · simp -dsimp -implicitDefEqProofs (disch := omega) [go_sem, -List.getD_eq_getElem?_getD, ite_yes, htp, ht, hneg]
      first | refine AAt.of (by first | exact SubH.refl | exact SubH.app | exact SubH.both (by simp [subL])) ?_ | (refine ⟨?_, AAt.of (by first | exact SubH.refl | exact SubH.app | exact SubH.both (by simp [subL])) ?_⟩; · omega)
      refine AAny.one 2 4 (by kernel_rfl) (by kernel_rfl) (by kernel_rfl) ?_
      simp -dsimp -implicitDefEqProofs (disch := omega) [go_sem, -List.getD_eq_getElem?_getD, ite_yes, htp, ht, hneg]
      refine ACall.of (l22Order_A l hl c _ t (by simp; omega)) ?_
      simp -dsimp -implicitDefEqProofs (disch := omega) [go_sem, -List.getD_eq_getElem?_getD, ite_yes, htp, ht, hneg]
      first | refine AAt.of (by first | exact SubH.refl | exact SubH.app | exact SubH.both (by simp [subL])) ?_ | (refine ⟨?_, AAt.of (by first | exact SubH.refl | exact SubH.app | exact SubH.both (by simp [subL])) ?_⟩; · omega)
      refine AAny.one 1 5 (by kernel_rfl) (by kernel_rfl) (by kernel_rfl) ?_
      simp -dsimp -implicitDefEqProofs (disch := omega) [go_sem, -List.getD_eq_getElem?_getD, ite_yes, htp, ht, hneg]
      refine ACall.of (l22Walk_A m ps h1 l src h3 (ordL l.length) (ordL_at h7) cp c _ _ tp t _ hP.app hS.app (Sl.nth 1 rfl rfl)) ?_
      simp -dsimp -implicitDefEqProofs (disch := omega) [go_sem, -List.getD_eq_getElem?_getD, ite_yes, htp, ht, hneg]
      first | refine AAt.of (by first | exact SubH.refl | exact SubH.app | exact SubH.both (by simp [subL])) ?_ | (refine ⟨?_, AAt.of (by first | exact SubH.refl | exact SubH.app | exact SubH.both (by simp [subL])) ?_⟩; · omega)
      refine AAny.takes (fuel := 0) (by kernel_rfl) (by kernel_rfl) [6] (by kernel_rfl) (by kernel_rfl) ?_
      simp -dsimp -implicitDefEqProofs (disch := omega) [go_sem, -List.getD_eq_getElem?_getD, ite_yes, htp, ht, hneg]
      refine AAny.done (by kernel_rfl) ?_
      simp -dsimp -implicitDefEqProofs (disch := omega) [go_sem, -List.getD_eq_getElem?_getD, ite_yes, htp, ht, hneg]
      exact fin_flat rfl rfl
    · simp -dsimp -implicitDefEqProofs (disch := omega) [go_sem, -List.getD_eq_getElem?_getD, ite_yes, htp, ht, hneg]
      refine ACall.of (l22Order_A l hl c _ t (by simp; omega)) ?_
      simp -dsimp -implicitDefEqProofs (disch := omega) [go_sem, -List.getD_eq_getElem?_getD, ite_yes, htp, ht, hneg]
      first | refine AAt.of (by first | exact SubH.refl | exact SubH.app | exact SubH.both (by simp [subL])) ?_ | (refine ⟨?_, AAt.of (by first | exact SubH.refl | exact SubH.app | exact SubH.both (by simp [subL])) ?_⟩; · omega)
      refine AAny.one 2 0 (by kernel_rfl) (by kernel_rfl) (by kernel_rfl) ?_
      simp -dsimp -implicitDefEqProofs (disch := omega) [go_sem, -List.getD_eq_getElem?_getD, ite_yes, htp, ht, hneg]
      first | refine AAt.of (by first | exact SubH.refl | exact SubH.app | exact SubH.both (by simp [subL])) ?_ | (refine ⟨?_, AAt.of (by first | exact SubH.refl | exact SubH.app | exact SubH.both (by simp [subL])) ?_⟩; · omega)
      refine AAny.one 1 5 (by kernel_rfl) (by kernel_rfl) (by kernel_rfl) ?_
      simp -dsimp -implicitDefEqProofs (disch := omega) [go_sem, -List.getD_eq_getElem?_getD, ite_yes, htp, ht, hneg]
      refine ACall.of (l22Walk_A m ps h1 l src h3 (ordL l.length) (ordL_at h7) cp c _ _ tp t _ hP.app hS.app (Sl.nth 1 rfl rfl)) ?_
      simp -dsimp -implicitDefEqProofs (disch := omega) [go_sem, -List.getD_eq_getElem?_getD, ite_yes, htp, ht, hneg]
      first | refine AAt.of (by first | exact SubH.refl | exact SubH.app | exact SubH.both (by simp [subL])) ?_ | (refine ⟨?_, AAt.of (by first | exact SubH.refl | exact SubH.app | exact SubH.both (by simp [subL])) ?_⟩; · omega)
      refine AAny.takes (fuel := 0) (by kernel_rfl) (by kernel_rfl) [6] (by kernel_rfl) (by kernel_rfl) ?_
      simp -dsimp -implicitDefEqProofs (disch := omega) [go_sem, -List.getD_eq_getElem?_getD, ite_yes, htp, ht, hneg]
      refine AAny.done (by kernel_rfl) ?_
      simp -dsimp -implicitDefEqProofs (disch := omega) [go_sem, -List.getD_eq_getElem?_getD, ite_yes, htp, ht, hneg]
      exact fin_flat rfl rfl
  · have hd : decide (0 ≤ walkZ m ps l src (ordL l.length)) = true := decide_eq_true (by omega)
    rw [posZ_pos hneg, hd]
    simp -dsimp -implicitDefEqProofs (disch := omega) [go_sem, -List.getD_eq_getElem?_getD, ite_yes, htp, ht]
    refine ADraw.any H (by kernel_rfl) (by first | exact SubH.refl | exact SubH.app | exact SubH.both (by simp [subL])) ?_
    refine AAny.takes (fuel := 4) (by kernel_rfl) (by kernel_rfl) [1, 2, 3] (by kernel_rfl) (by kernel_rfl) ?_
    simp -dsimp -implicitDefEqProofs (disch := omega) [go_sem, -List.getD_eq_getElem?_getD, ite_yes, htp, ht, hneg]
    refine AAny.two 3 0 4 (by kernel_rfl) (by kernel_rfl) (by kernel_rfl) ?_ ?_
    · simp -dsimp -implicitDefEqProofs (disch := omega) [go_sem, -List.getD_eq_getElem?_getD, ite_yes, htp, ht, hneg]
      first | refine AAt.of (by first | exact SubH.refl | exact SubH.app | exact SubH.both (by simp [subL])) ?_ | (refine ⟨?_, AAt.of (by first | exact SubH.refl | exact SubH.app | exact SubH.both (by simp [subL])) ?_⟩; · omega)
      refine AAny.one 2 4 (by kernel_rfl) (by kernel_rfl) (by kernel_rfl) ?_
      simp -dsimp -implicitDefEqProofs (disch := omega) [go_sem, -List.getD_eq_getElem?_getD, ite_yes, htp, ht, hneg]
      refine ACall.of (l22Order_A l hl c _ t (by simp; omega)) ?_
      simp -dsimp -implicitDefEqProofs (disch := omega) [go_sem, -List.getD_eq_getElem?_getD, ite_yes, htp, ht, hneg]
      first | refine AAt.of (by first | exact SubH.refl | exact SubH.app | exact SubH.both (by simp [subL])) ?_ | (refine ⟨?_, AAt.of (by first | exact SubH.refl | exact SubH.app | exact SubH.both (by simp [subL])) ?_⟩; · omega)
      refine AAny.one 1 5 (by kernel_rfl) (by kernel_rfl) (by kernel_rfl) ?_
      simp -dsimp -implicitDefEqProofs (disch := omega) [go_sem, -List.getD_eq_getElem?_getD, ite_yes, htp, ht, hneg]
      refine ACall.of (l22Walk_A m ps h1 l src h3 (ordL l.length) (ordL_at h7) cp c _ _ tp t _ hP.app hS.app (Sl.nth 1 rfl rfl)) ?_
      simp -dsimp -implicitDefEqProofs (disch := omega) [go_sem, -List.getD_eq_getElem?_getD, ite_yes, htp, ht, hneg]
      first | refine AAt.of (by first | exact SubH.refl | exact SubH.app | exact SubH.both (by simp [subL])) ?_ | (refine ⟨?_, AAt.of (by first | exact SubH.refl | exact SubH.app | exact SubH.both (by simp [subL])) ?_⟩; · omega)
      refine AAny.takes (fuel := 0) (by kernel_rfl) (by kernel_rfl) [6] (by kernel_rfl) (by kernel_rfl) ?_
      simp -dsimp -implicitDefEqProofs (disch := omega) [go_sem, -List.getD_eq_getElem?_getD, ite_yes, htp, ht, hneg]
      refine AAny.done (by kernel_rfl) ?_
      simp -dsimp -implicitDefEqProofs (disch := omega) [go_sem, -List.getD_eq_getElem?_getD, ite_yes, htp, ht, hneg]
      exact fin_flat rfl rfl
    · simp -dsimp -implicitDefEqProofs (disch := omega) [go_sem, -List.getD_eq_getElem?_getD, ite_yes, htp, ht, hneg]
      refine ACall.of (l22Order_A l hl c _ t (by simp; omega)) ?_
      simp -dsimp -implicitDefEqProofs (disch := omega) [go_sem, -List.getD_eq_getElem?_getD, ite_yes, htp, ht, hneg]
      first | refine AAt.of (by first | exact SubH.refl | exact SubH.app | exact SubH.both (by simp [subL])) ?_ | (refine ⟨?_, AAt.of (by first | exact SubH.refl | exact SubH.app | exact SubH.both (by simp [subL])) ?_⟩; · omega)
      refine AAny.one 2 0 (by kernel_rfl) (by kernel_rfl) (by kernel_rfl) ?_
      simp -dsimp -implicitDefEqProofs (disch := omega) [go_sem, -List.getD_eq_getElem?_getD, ite_yes, htp, ht, hneg]
      first | refine AAt.of (by first | exact SubH.refl | exact SubH.app | exact SubH.both (by simp [subL])) ?_ | (refine ⟨?_, AAt.of (by first | exact SubH.refl | exact SubH.app | exact SubH.both (by simp [subL])) ?_⟩; · omega)
      refine AAny.one 1 5 (by kernel_rfl) (by kernel_rfl) (by kernel_rfl) ?_
      simp -dsimp -implicitDefEqProofs (disch := omega) [go_sem, -List.getD_eq_getElem?_getD, ite_yes, htp, ht, hneg]
      refine ACall.of (l22Walk_A m ps h1 l src h3 (ordL l.length) (ordL_at h7) cp c _ _ tp t _ hP.app hS.app (Sl.nth 1 rfl rfl)) ?_
      simp -dsimp -implicitDefEqProofs (disch := omega) [go_sem, -List.getD_eq_getElem?_getD, ite_yes, htp, ht, hneg]
      first | refine AAt.of (by first | exact SubH.refl | exact SubH.app | exact SubH.both (by simp [subL])) ?_ | (refine ⟨?_, AAt.of (by first | exact SubH.refl | exact SubH.app | exact SubH.both (by simp [subL])) ?_⟩; · omega)
      refine AAny.takes (fuel := 0) (by kernel_rfl) (by kernel_rfl) [6] (by kernel_rfl) (by kernel_rfl) ?_
      simp -dsimp -implicitDefEqProofs (disch := omega) [go_sem, -List.getD_eq_getElem?_getD, ite_yes, htp, ht, hneg]
      refine AAny.done (by kernel_rfl) ?_
      simp -dsimp -implicitDefEqProofs (disch := omega) [go_sem, -List.getD_eq_getElem?_getD, ite_yes, htp, ht, hneg]
      exact fin_flat rfl rfl
end Go.Proofs.Ytkjgmppcgcimgaa
