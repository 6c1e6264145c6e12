/- HighestUse: both sides, and the law. -/
import Derived.Test.YthnnbgggfpempaaDoorUseUpToLaw
namespace Go.Proofs.YthnnbgggfpempaaDoor
open Go.Am
set_option linter.unusedVariables false
set_option linter.unusedSimpArgs false
set_option maxRecDepth 100000
set_option maxHeartbeats 1000000

def ddN (l : List Rd) (i : Nat) : Nat := dayN l (i + 1) - dayN l i
/-- which of the first k uses is the highest a day -/
def bestN (l : List Rd) : Nat → Nat
  | 0 => 0
  | k + 1 => if useN l (bestN l k) * ddN l k < useN l k * ddN l (bestN l k) then k else bestN l k
theorem bestN_le (l : List Rd) : ∀ k, bestN l k ≤ k - 1
  | 0 => Nat.le_refl _
  | k + 1 => by
    have := bestN_le l k
    simp only [bestN]
    split <;> omega
theorem bestN_one (l : List Rd) : bestN l 1 = 0 := by simp [bestN]
theorem ddN_pos {l : List Rd} (h : good l = true) {i : Nat} (hi : i + 1 < l.length) : 0 < ddN l i ∧ ddN l i ≤ 3650 := by
  have := dayN_lt h hi
  have := dayN_le h hi
  unfold ddN; omega
/-- fractions in lowest terms compare as they are -/
theorem redN_lt {a b c d : Nat} (hb : 0 < b) (hd : 0 < d) : (redN c d).1 * (redN a b).2 < (redN a b).1 * (redN c d).2 ↔ c * b < a * d := by
  obtain ⟨g, h1, h2, h3⟩ := redN_eq a hb
  obtain ⟨e, k1, k2, k3⟩ := redN_eq c hd
  generalize (redN a b).1 = a' at *
  generalize (redN a b).2 = b' at *
  generalize (redN c d).1 = c' at *
  generalize (redN c d).2 = d' at *
  subst h2; subst h3; subst k2; subst k3
  have e1 : e * c' * (g * b') = (e * g) * (c' * b') := by rw [Nat.mul_mul_mul_comm]
  have e2 : g * a' * (e * d') = (e * g) * (a' * d') := by rw [Nat.mul_mul_mul_comm, Nat.mul_comm g e]
  rw [e1, e2]
  exact (Nat.mul_lt_mul_left (Nat.mul_pos k1 h1)).symm
def highOk (l : List Rd) : Bool := good l && decide (2 ≤ l.length)
def highP (l : List Rd) (k : Nat) : Int × Int := if k = 0 then (-1, 1) else (((redN (useN l (bestN l k)) (ddN l (bestN l k))).1 : Nat), ((redN (useN l (bestN l k)) (ddN l (bestN l k))).2 : Nat))
theorem iHigh_bad (l : List Rd) (hl : l.length ≤ 1048577) (hg : highOk l = false) (c : Nat) (H : Heap) (t : Nat) (hS : Sl rdE H t l) :
    AFunC Tryd.prog 14 [.slice (some ⟨t, 0, none⟩) l.length c] H (.tuple #[.int .i64 0, .int .i64 0, .int .i64 0, .bool false]) H := by
  refine AFunC.of_body Tryd.func14 (by kernel_rfl) rfl (by kernel_rfl) (by simp [Tryd.ntmps14]) ?_
  have ht := hS.lt
  simp -dsimp -implicitDefEqProofs (disch := omega) [go_sem, -List.getD_eq_getElem?_getD, ite_yes]
  refine ACall.of (iValidReadings_A l hl c _ t hS) ?_
  cases g1 : good l
  · simp -dsimp -implicitDefEqProofs (disch := omega) [go_sem, -List.getD_eq_getElem?_getD, ite_yes]
    exact fin_flat0 rfl rfl
  have g2 : (l.length : Int) < 2 := by
    simp only [highOk, g1, Bool.true_and] at hg
    have := of_decide_eq_false hg
    omega
  simp -dsimp -implicitDefEqProofs (disch := omega) [go_sem, -List.getD_eq_getElem?_getD, ite_yes, g2]
  exact fin_flat0 rfl rfl
theorem sHigh_bad (l : List Rd) (hl : l.length ≤ 1048577) (hg : highOk l = false) (c : Nat) (H : Heap) (t : Nat) (hS : Sl rdE H t l) :
    AFunC Tryd.prog 15 [.slice (some ⟨t, 0, none⟩) l.length c] H (.tuple #[.int .i64 0, .int .i64 0, .int .i64 0, .bool false]) H := by
  refine AFunC.of_body Tryd.func15 (by kernel_rfl) rfl (by kernel_rfl) (by simp [Tryd.ntmps15]) ?_
  have ht := hS.lt
  simp -dsimp -implicitDefEqProofs (disch := omega) [go_sem, -List.getD_eq_getElem?_getD, ite_yes]
  refine ACall.of (l19Good_A l hl c _ t hS) ?_
  cases g1 : good l
  · simp -dsimp -implicitDefEqProofs (disch := omega) [go_sem, -List.getD_eq_getElem?_getD, ite_yes]
    exact fin_flat0 rfl rfl
  have g2 : (l.length : Int) < 2 := by
    simp only [highOk, g1, Bool.true_and] at hg
    have := of_decide_eq_false hg
    omega
  simp -dsimp -implicitDefEqProofs (disch := omega) [go_sem, -List.getD_eq_getElem?_getD, ite_yes, g2]
  exact fin_flat0 rfl rfl
theorem sHigh_good (l : List Rd) (hl : l.length ≤ 1048577) (hg : highOk l = true) (c : Nat) (H : Heap) (t : Nat) (hS : Sl rdE H t l) :
    AFunC Tryd.prog 15 [.slice (some ⟨t, 0, none⟩) l.length c] H (.tuple #[.int .i64 (bestN l (l.length - 1)), .int .i64 ((redN (useN l (bestN l (l.length - 1))) (ddN l (bestN l (l.length - 1)))).1 : Nat), .int .i64 ((redN (useN l (bestN l (l.length - 1))) (ddN l (bestN l (l.length - 1)))).2 : Nat), .bool true]) H := by
  refine AFunC.of_body Tryd.func15 (by kernel_rfl) rfl (by kernel_rfl) (by simp [Tryd.ntmps15]) ?_
  have ht := hS.lt
  simp only [highOk, Bool.and_eq_true, decide_eq_true_eq] at hg
  obtain ⟨g1, g2⟩ := hg
  have h12 := (good_at g1).1
  have g2' : ¬ ((l.length : Nat) : Int) < 2 := by omega
  have cs := fun k hk => hS.cells (s := 2) (fun _ => rfl) (0, 0) k hk
  simp only [rdE] at cs
  have cd : ∀ k, k < l.length → aCells H ⟨t, k * 2, none⟩ 1 = some [.int .i64 (dayN l k : Int)] := fun k hk => by
    have := hS.cell (s := 2) (fun _ => rfl) (0, 0) k 0 hk (by omega)
    rw [← dayN_eq g1 hk]
    exact this
  simp -dsimp -implicitDefEqProofs (disch := omega) [go_sem, -List.getD_eq_getElem?_getD, ite_yes]
  refine ACall.of (l19Good_A l hl c _ t hS) ?_
  simp -dsimp -implicitDefEqProofs (disch := omega) [go_sem, -List.getD_eq_getElem?_getD, ite_yes, g1, g2']
  refine ALoop.intro (ι := Nat) (fun k => 1 ≤ k ∧ k ≤ l.length - 1) (fun k => [(0, .slice (some ⟨t, 0, none⟩) l.length c), (6, .int .i64 (bestN l k)), (7, .int .i64 k)]) (fun _ => H) (fun k => l.length - k) 1 ⟨by omega, by omega⟩ ?_ ?_
  · exact weakS_same (by simp -dsimp -implicitDefEqProofs (disch := omega) [go_sem, -List.getD_eq_getElem?_getD, ite_yes, ht, bestN_one])
  · rintro k ⟨hk, hk'⟩
    have bl := bestN_le l k
    by_cases hlt : k + 1 < l.length
    · have hlt' : (k : Int) + 1 < (l.length : Int) := by omega
      have hb1 : bestN l k + 1 < l.length := by omega
      have hb0 : bestN l k < l.length := by omega
      have hk0 : k < l.length := by omega
      have c1 := cs k hk0
      have c2 := cs (k + 1) hlt
      have c3 := cs (bestN l k) hb0
      have c4 := cs (bestN l k + 1) hb1
      have d1 := cd k hk0
      have d2 := cd (k + 1) hlt
      have d3 := cd (bestN l k) hb0
      have d4 := cd (bestN l k + 1) hb1
      have a1 := (good_at g1).2 k hk0
      have a2 := (good_at g1).2 (k + 1) hlt
      have a3 := (good_at g1).2 (bestN l k) hb0
      have a4 := (good_at g1).2 (bestN l k + 1) hb1
      have q1 := ddN_pos g1 hlt
      have q2 := ddN_pos g1 hb1
      have u1 := useN_le l k
      have u2 := useN_le l (bestN l k)
      have e1 : (dayN l (k + 1) : Int) - (dayN l k : Int) = (ddN l k : Int) := by unfold ddN at *; omega
      have e2 : (dayN l (bestN l k + 1) : Int) - (dayN l (bestN l k) : Int) = (ddN l (bestN l k) : Int) := by unfold ddN at *; omega
      have e3 : (useN l k : Int) * (ddN l (bestN l k) : Int) = ((useN l k * ddN l (bestN l k) : Nat) : Int) := (Int.natCast_mul _ _).symm
      have e4 : (useN l (bestN l k) : Int) * (ddN l k : Int) = ((useN l (bestN l k) * ddN l k : Nat) : Int) := (Int.natCast_mul _ _).symm
      have m1 := Nat.mul_le_mul u1 q2.2
      have m2 := Nat.mul_le_mul u2 q1.2
      simp -dsimp -implicitDefEqProofs (disch := omega) [go_sem, -List.getD_eq_getElem?_getD, ite_yes, hlt', hlt]
      refine ADraw.quiet (by kernel_rfl) (by kernel_rfl) (by kernel_rfl) ?_
      simp -dsimp -implicitDefEqProofs (disch := omega) [go_sem, -List.getD_eq_getElem?_getD, ite_yes, hlt', hlt, hb1, hb0, hk0, c1, c2, c3, c4]
      refine ACallQ.of (l19Use_A (l.getD k (0, 0)) (l.getD (k + 1) (0, 0)) (by omega) (by omega) _) rfl ?_
      rw [useN_eq]
      simp -dsimp -implicitDefEqProofs (disch := omega) [go_sem, -List.getD_eq_getElem?_getD, ite_yes, hlt', hlt, hb1, hb0, hk0, c1, c2, c3, c4]
      refine ACallQ.of (l19Use_A (l.getD (bestN l k) (0, 0)) (l.getD (bestN l k + 1) (0, 0)) (by omega) (by omega) _) rfl ?_
      rw [useN_eq]
      simp -dsimp -implicitDefEqProofs (disch := omega) [go_sem, -List.getD_eq_getElem?_getD, ite_yes, hlt', hlt, hb1, hb0, hk0]
      refine ADraw.quiet (by kernel_rfl) (by kernel_rfl) (by kernel_rfl) ?_
      simp -dsimp -implicitDefEqProofs (disch := omega) [go_sem, -List.getD_eq_getElem?_getD, ite_yes, hlt', hlt, hb1, hb0, hk0, d1, d2, d3, d4, e1, e2, e3, e4, -Int.natCast_mul]
      refine AIf.of (fun h => ?_) (fun h => ?_)
      · simp only [decide_eq_true_eq] at h
        have e5 : bestN l (k + 1) = k := by simp only [bestN]; rw [if_pos (by omega)]
        simp -dsimp -implicitDefEqProofs (disch := omega) [go_sem, -List.getD_eq_getElem?_getD, ite_yes]
        exact LoopEnd.of (k + 1) (by omega) (by omega) (weakS_same (by simp -dsimp -implicitDefEqProofs (disch := omega) [go_sem, -List.getD_eq_getElem?_getD, ite_yes, ht, e5]))
      · simp only [decide_eq_false_iff_not] at h
        have e5 : bestN l (k + 1) = bestN l k := by simp only [bestN]; rw [if_neg (by omega)]
        simp -dsimp -implicitDefEqProofs (disch := omega) [go_sem, -List.getD_eq_getElem?_getD, ite_yes]
        exact LoopEnd.of (k + 1) (by omega) (by omega) (weakS_same (by simp -dsimp -implicitDefEqProofs (disch := omega) [go_sem, -List.getD_eq_getElem?_getD, ite_yes, ht, e5]))
    · have hlt' : ¬ (k : Int) + 1 < (l.length : Int) := by omega
      obtain rfl : k = l.length - 1 := by omega
      generalize bestN l (l.length - 1) = B at *
      have hb1 : B + 1 < l.length := by omega
      have hb0 : B < l.length := by omega
      have c3 := cs B hb0
      have c4 := cs (B + 1) hb1
      have d3 := cd B hb0
      have d4 := cd (B + 1) hb1
      have a3 := (good_at g1).2 B hb0
      have a4 := (good_at g1).2 (B + 1) hb1
      have q2 := ddN_pos g1 hb1
      have u2 := useN_le l B
      have e2 : (dayN l (B + 1) : Int) - (dayN l B : Int) = (ddN l B : Int) := by unfold ddN at *; omega
      simp -dsimp -implicitDefEqProofs (disch := omega) [go_sem, -List.getD_eq_getElem?_getD, ite_yes, hlt']
      refine ADraw.quiet (by kernel_rfl) (by kernel_rfl) (by kernel_rfl) ?_
      simp -dsimp -implicitDefEqProofs (disch := omega) [go_sem, -List.getD_eq_getElem?_getD, ite_yes, hb1, hb0, c3, c4]
      refine ACallQ.of (l19Use_A (l.getD B (0, 0)) (l.getD (B + 1) (0, 0)) (by omega) (by omega) _) rfl ?_
      rw [useN_eq]
      simp -dsimp -implicitDefEqProofs (disch := omega) [go_sem, -List.getD_eq_getElem?_getD, ite_yes, hb1, hb0, d3, d4, e2]
      refine ACallQ.of (l3Reduce_A _ _ (by omega) (by omega) (by omega) _) rfl ?_
      simp -dsimp -implicitDefEqProofs (disch := omega) [go_sem, -List.getD_eq_getElem?_getD, ite_yes, -Int.natCast_ediv]
      exact fin_flat0 rfl rfl
theorem highP_range {l : List Rd} (h : good l = true) {k : Nat} (hk : k < l.length) : -1000000000 ≤ (highP l k).1 ∧ (highP l k).1 ≤ 1000000000 ∧ 0 ≤ (highP l k).2 ∧ (highP l k).2 ≤ 1000000000 := by
  unfold highP
  split
  · exact ⟨by simp, by simp, by simp, by simp⟩
  · have bl := bestN_le l k
    have q := ddN_pos h (i := bestN l k) (by omega)
    have u := useN_le l (bestN l k)
    have r := redN_le (useN l (bestN l k)) (ddN l (bestN l k))
    simp only
    omega
theorem cmpI_pos {x y : Int} : 0 < cmpI x y ↔ y < x := by
  unfold cmpI
  split
  · omega
  · split <;> omega
theorem high_cmp {l : List Rd} (h : good l = true) {k : Nat} (hk : k + 1 < l.length) :
    (0 < cmpI (((redN (useN l k) (ddN l k)).1 : Nat) * (highP l k).2) ((highP l k).1 * ((redN (useN l k) (ddN l k)).2 : Nat))) ↔ (k = 0 ∨ useN l (bestN l k) * ddN l k < useN l k * ddN l (bestN l k)) := by
  have q := ddN_pos h hk
  have r2 := redN_pos (a := useN l k) q.1
  rw [cmpI_pos]
  unfold highP
  by_cases h0 : k = 0
  · rw [if_pos h0]
    simp only
    constructor
    · intro _; exact .inl h0
    · intro _
      generalize (redN (useN l k) (ddN l k)).1 = a at *
      generalize (redN (useN l k) (ddN l k)).2 = b at *
      omega
  · rw [if_neg h0]
    have bl := bestN_le l k
    have q2 := ddN_pos h (i := bestN l k) (by omega)
    have := redN_lt (a := useN l k) (b := ddN l k) (c := useN l (bestN l k)) (d := ddN l (bestN l k)) q.1 q2.1
    simp only
    rw [← Int.natCast_mul, ← Int.natCast_mul, Int.ofNat_lt, this]
    constructor
    · exact fun h => .inr h
    · rintro (h | h)
      · exact absurd h h0
      · exact h
theorem high_yes {l : List Rd} {k : Nat} (h : k = 0 ∨ useN l (bestN l k) * ddN l k < useN l k * ddN l (bestN l k)) : bestN l (k + 1) = k ∧ highP l (k + 1) = (((redN (useN l k) (ddN l k)).1 : Int), ((redN (useN l k) (ddN l k)).2 : Int)) := by
  have e : bestN l (k + 1) = k := by
    simp only [bestN]
    rcases h with rfl | h
    · simp [bestN]
    · rw [if_pos h]
  refine ⟨e, ?_⟩
  unfold highP
  rw [if_neg (by omega), e]
theorem high_no {l : List Rd} {k : Nat} (h : ¬ (k = 0 ∨ useN l (bestN l k) * ddN l k < useN l k * ddN l (bestN l k))) : bestN l (k + 1) = bestN l k ∧ highP l (k + 1) = highP l k := by
  have h1 : k ≠ 0 := fun e => h (.inl e)
  have e : bestN l (k + 1) = bestN l k := by
    simp only [bestN]
    rw [if_neg (fun e => h (.inr e))]
  refine ⟨e, ?_⟩
  unfold highP
  rw [if_neg (by omega), if_neg h1, e]
theorem iHigh_good (l : List Rd) (hl : l.length ≤ 1048577) (hg : highOk l = true) (c : Nat) (H : Heap) (t : Nat) (hS : Sl rdE H t l) :
    AFunC Tryd.prog 14 [.slice (some ⟨t, 0, none⟩) l.length c] H (.tuple #[.int .i64 (bestN l (l.length - 1)), .int .i64 ((redN (useN l (bestN l (l.length - 1))) (ddN l (bestN l (l.length - 1)))).1 : Nat), .int .i64 ((redN (useN l (bestN l (l.length - 1))) (ddN l (bestN l (l.length - 1)))).2 : Nat), .bool true]) H := by
  refine AFunC.of_body Tryd.func14 (by kernel_rfl) rfl (by kernel_rfl) (by simp [Tryd.ntmps14]) ?_
  have ht := hS.lt
  simp only [highOk, Bool.and_eq_true, decide_eq_true_eq] at hg
  obtain ⟨g1, g2⟩ := hg
  have h12 := (good_at g1).1
  have g2' : ¬ ((l.length : Nat) : Int) < 2 := by omega
  have cd : ∀ k, k < l.length → aCells H ⟨t, k * 2, none⟩ 1 = some [.int .i64 (dayN l k : Int)] := fun k hk => by
    have := hS.cell (s := 2) (fun _ => rfl) (0, 0) k 0 hk (by omega)
    rw [← dayN_eq g1 hk]
    exact this
  have ul : (uses l).length = l.length - 1 := by unfold uses; exact usesTo_length
  have ufl : ((uses l).flatMap nmE).length = l.length - 1 := by rw [nmE_length, ul]; omega
  have uc : ∀ k, k + 1 < l.length → List.take 1 (List.drop k ((uses l).flatMap nmE)) = [.int .i64 (useN l k : Nat)] := fun k hk => by
    have := flatMap_cells nmE 1 (fun _ => rfl) 0 (uses l) k (by omega)
    rw [Nat.mul_one] at this
    rw [this, ← useN_eq]
    simp [nmE, uses, usesTo, List.getD, show k < l.length - 1 by omega]
  simp -dsimp -implicitDefEqProofs (disch := omega) [go_sem, -List.getD_eq_getElem?_getD, ite_yes]
  refine ACall.of (iValidReadings_A l hl c _ t hS) ?_
  simp -dsimp -implicitDefEqProofs (disch := omega) [go_sem, -List.getD_eq_getElem?_getD, ite_yes, g1, g2']
  refine ACall.of (usesOf_A l g1 c _ t hS.app) ?_
  simp -dsimp -implicitDefEqProofs (disch := omega) [go_sem, -List.getD_eq_getElem?_getD, ite_yes, ht]
  refine ALoop.intro (ι := Nat) (fun k => k ≤ l.length - 1) (fun k => [(0, .slice (some ⟨t, 0, none⟩) l.length c), (6, .int .i64 (bestN l k)), (7, .pointer (some ⟨H.length, 0, none⟩)), (21, .slice (some ⟨H.length + 1, 0, none⟩) (uses l).length (uses l).length), (22, .int .i64 ((l.length - 1 : Nat) : Int)), (23, .int .i64 k)])
    (fun k => H ++ [some ⟨[.int .i64 (highP l k).1, .int .i64 (highP l k).2], true, 93, 1⟩, some ⟨(uses l).flatMap nmE, true, 3, 1⟩]) (fun k => l.length - 1 - k) 0 (by omega) ?_ ?_
  · refine weakS_mk [some 0, some 1] rfl ?_ (by simp -dsimp -implicitDefEqProofs (disch := omega) [go_sem, -List.getD_eq_getElem?_getD, ite_yes, ht, ul, bestN])
    simp -dsimp -implicitDefEqProofs (disch := omega) [go_sem, -List.getD_eq_getElem?_getD, ite_yes]
    exact ⟨.inl ⟨by simp [highP], by simp [flat]⟩, .inl ⟨rfl, nmE_flat _⟩⟩
  · intro k hk
    by_cases hlt : k < l.length - 1
    · have hk1 : k + 1 < l.length := by omega
      have cd0 := cd k (by omega)
      have cd1 := cd (k + 1) hk1
      have q := ddN_pos g1 hk1
      have u1 := useN_le l k
      have e1 : (dayN l (k + 1) : Int) - (dayN l k : Int) = (ddN l k : Int) := by
        have := dayN_lt g1 hk1
        unfold ddN at *; omega
      have hc := high_cmp g1 hk1
      have hr := highP_range g1 (show k < l.length by omega)
      have rl := redN_le (useN l k) (ddN l k)
      have hy := high_yes (l := l) (k := k)
      have hn := high_no (l := l) (k := k)
      generalize highP l k = hp at *
      have ap := fun H => asPart_A (useN l k) (ddN l k) (by omega) (by omega) q.1 H
      rw [show useN l k / (useN l k).gcd (ddN l k) = (redN (useN l k) (ddN l k)).1 from rfl, show ddN l k / (useN l k).gcd (ddN l k) = (redN (useN l k) (ddN l k)).2 from rfl] at ap
      generalize redN (useN l k) (ddN l k) = rn at *
      simp -dsimp -implicitDefEqProofs (disch := omega) [go_sem, -List.getD_eq_getElem?_getD, ite_yes, hlt, ul, ufl, uc, hk1, ht]
      refine ADraw.mid [(0, .slice (some ⟨t, 0, none⟩) l.length c), (6, .int .i64 (bestN l k)), (7, .pointer (some ⟨H.length, 0, none⟩)), (8, .int .i64 k), (10, .pointer (some ⟨H.length + 2, 0, none⟩)), (21, .slice (some ⟨H.length + 1, 0, none⟩) (uses l).length (uses l).length), (22, .int .i64 ((l.length - 1 : Nat) : Int)), (23, .int .i64 k)]
        (H ++ [some ⟨[.int .i64 hp.1, .int .i64 hp.2], true, 93, 1⟩, some ⟨(uses l).flatMap nmE, true, 3, 1⟩, some ⟨[.int .i64 rn.1, .int .i64 rn.2], true, 93, 1⟩]) ?_ ?_
      · refine ADraw.any _ (by kernel_rfl) (SubH.refl) ?_
        refine AAny.takes (fuel := 3) (by kernel_rfl) (by kernel_rfl) [0, 1, 2, 3, 4, 5, 6, 7, 8, 9, 10, 11, 12] (by kernel_rfl) (by kernel_rfl) ?_
        simp -dsimp -implicitDefEqProofs (disch := omega) [go_sem, -List.getD_eq_getElem?_getD, ite_yes, ht, cd0, cd1, hk1, e1]
        refine AAny.two 2 13 14 (by kernel_rfl) (by kernel_rfl) (by kernel_rfl) ?_ ?_
        · simp -dsimp -implicitDefEqProofs (disch := omega) [go_sem, -List.getD_eq_getElem?_getD, ite_yes, ht, cd0, cd1, hk1, e1]
          refine ACall.of (ap _) ?_
          simp -dsimp -implicitDefEqProofs (disch := omega) [go_sem, -List.getD_eq_getElem?_getD, ite_yes, ht, cd0, cd1, hk1, e1]
          first | refine AAt.of (by first | exact SubH.refl | exact SubH.app | exact SubH.both (by simp [subL])) ?_ | (refine ⟨?_, AAt.of (by first | exact SubH.refl | exact SubH.app | exact SubH.both (by simp [subL])) ?_⟩; · omega)
          refine AAny.one 1 14 (by kernel_rfl) (by kernel_rfl) (by kernel_rfl) ?_
          simp -dsimp -implicitDefEqProofs (disch := omega) [go_sem, -List.getD_eq_getElem?_getD, ite_yes, ht, cd0, cd1, hk1, e1]
          first | refine AAt.of (by first | exact SubH.refl | exact SubH.app | exact SubH.both (by simp [subL])) ?_ | (refine ⟨?_, AAt.of (by first | exact SubH.refl | exact SubH.app | exact SubH.both (by simp [subL])) ?_⟩; · omega)
          refine AAny.one 0 15 (by kernel_rfl) (by kernel_rfl) (by kernel_rfl) ?_
          simp -dsimp -implicitDefEqProofs (disch := omega) [go_sem, -List.getD_eq_getElem?_getD, ite_yes, ht, cd0, cd1, hk1, e1]
          first | refine AAt.of (by first | exact SubH.refl | exact SubH.app | exact SubH.both (by simp [subL])) ?_ | (refine ⟨?_, AAt.of (by first | exact SubH.refl | exact SubH.app | exact SubH.both (by simp [subL])) ?_⟩; · omega)
          refine AAny.done (by kernel_rfl) ?_
          simp -dsimp -implicitDefEqProofs (disch := omega) [go_sem, -List.getD_eq_getElem?_getD, ite_yes, ht, cd0, cd1, hk1, e1]
          exact ⟨weakS_mk [some 0, some 1, some 2] rfl (by simp -dsimp -implicitDefEqProofs (disch := omega) [go_sem, -List.getD_eq_getElem?_getD, ite_yes]; exact ⟨.inl ⟨rfl, rfl⟩, .inl ⟨rfl, nmE_flat _⟩, .inl ⟨rfl, rfl⟩⟩) (by simp -dsimp -implicitDefEqProofs (disch := omega) [go_sem, -List.getD_eq_getElem?_getD, ite_yes, ht, ul])⟩
        · simp -dsimp -implicitDefEqProofs (disch := omega) [go_sem, -List.getD_eq_getElem?_getD, ite_yes, ht, cd0, cd1, hk1, e1]
          first | refine AAt.of (by first | exact SubH.refl | exact SubH.app | exact SubH.both (by simp [subL])) ?_ | (refine ⟨?_, AAt.of (by first | exact SubH.refl | exact SubH.app | exact SubH.both (by simp [subL])) ?_⟩; · omega)
          refine AAny.one 1 13 (by kernel_rfl) (by kernel_rfl) (by kernel_rfl) ?_
          simp -dsimp -implicitDefEqProofs (disch := omega) [go_sem, -List.getD_eq_getElem?_getD, ite_yes, ht, cd0, cd1, hk1, e1]
          refine ACall.of (ap _) ?_
          simp -dsimp -implicitDefEqProofs (disch := omega) [go_sem, -List.getD_eq_getElem?_getD, ite_yes, ht, cd0, cd1, hk1, e1]
          first | refine AAt.of (by first | exact SubH.refl | exact SubH.app | exact SubH.both (by simp [subL])) ?_ | (refine ⟨?_, AAt.of (by first | exact SubH.refl | exact SubH.app | exact SubH.both (by simp [subL])) ?_⟩; · omega)
          refine AAny.one 0 15 (by kernel_rfl) (by kernel_rfl) (by kernel_rfl) ?_
          simp -dsimp -implicitDefEqProofs (disch := omega) [go_sem, -List.getD_eq_getElem?_getD, ite_yes, ht, cd0, cd1, hk1, e1]
          first | refine AAt.of (by first | exact SubH.refl | exact SubH.app | exact SubH.both (by simp [subL])) ?_ | (refine ⟨?_, AAt.of (by first | exact SubH.refl | exact SubH.app | exact SubH.both (by simp [subL])) ?_⟩; · omega)
          refine AAny.done (by kernel_rfl) ?_
          simp -dsimp -implicitDefEqProofs (disch := omega) [go_sem, -List.getD_eq_getElem?_getD, ite_yes, ht, cd0, cd1, hk1, e1]
          exact ⟨weakS_mk [some 0, some 1, some 2] rfl (by simp -dsimp -implicitDefEqProofs (disch := omega) [go_sem, -List.getD_eq_getElem?_getD, ite_yes]; exact ⟨.inl ⟨rfl, rfl⟩, .inl ⟨rfl, nmE_flat _⟩, .inl ⟨rfl, rfl⟩⟩) (by simp -dsimp -implicitDefEqProofs (disch := omega) [go_sem, -List.getD_eq_getElem?_getD, ite_yes, ht, ul])⟩
      simp -dsimp -implicitDefEqProofs (disch := omega) [go_sem, -List.getD_eq_getElem?_getD, ite_yes]
      refine ACall.of (partCompare_A rn.1 hp.1 rn.2 hp.2 (by omega) (by omega) (by omega) (by omega) _) ?_
      simp -dsimp -implicitDefEqProofs (disch := omega) [go_sem, -List.getD_eq_getElem?_getD, ite_yes]
      refine AIf.of (fun h => ?_) (fun h => ?_)
      · simp only [decide_eq_true_eq] at h
        obtain ⟨y1, y2⟩ := hy (hc.1 h)
        simp -dsimp -implicitDefEqProofs (disch := omega) [go_sem, -List.getD_eq_getElem?_getD, ite_yes]
        refine ADraw.any (H ++ [none, none, some ⟨[.int .i64 rn.1, .int .i64 rn.2], true, 93, 1⟩]) (by kernel_rfl) (by first | exact SubH.refl | exact SubH.app | exact SubH.both (by simp [subL])) ?_
        refine AAny.takes (fuel := 1) (by kernel_rfl) (by kernel_rfl) [0, 1, 2] (by kernel_rfl) (by kernel_rfl) ?_
        simp -dsimp -implicitDefEqProofs (disch := omega) [go_sem, -List.getD_eq_getElem?_getD, ite_yes, ht]
        refine AAny.one 0 3 (by kernel_rfl) (by kernel_rfl) (by kernel_rfl) ?_
        simp -dsimp -implicitDefEqProofs (disch := omega) [go_sem, -List.getD_eq_getElem?_getD, ite_yes, ht]
        first | refine AAt.of (by first | exact SubH.refl | exact SubH.app | exact SubH.both (by simp [subL])) ?_ | (refine ⟨?_, AAt.of (by first | exact SubH.refl | exact SubH.app | exact SubH.both (by simp [subL])) ?_⟩; · omega)
        refine AAny.done (by kernel_rfl) ?_
        simp -dsimp -implicitDefEqProofs (disch := omega) [go_sem, -List.getD_eq_getElem?_getD, ite_yes, ht]
        refine LoopEnd.of (k + 1) (by omega) (by omega) (weakS_mk [some 0, some 1] rfl ?_ (by simp -dsimp -implicitDefEqProofs (disch := omega) [go_sem, -List.getD_eq_getElem?_getD, ite_yes, ht, ul, y1]))
        simp -dsimp -implicitDefEqProofs (disch := omega) [go_sem, -List.getD_eq_getElem?_getD, ite_yes]
        exact ⟨.inl ⟨by rw [y2], by simp [flat]⟩, .inl ⟨rfl, nmE_flat _⟩⟩
      · simp only [decide_eq_false_iff_not] at h
        obtain ⟨y1, y2⟩ := hn (fun h' => h (hc.2 h'))
        simp -dsimp -implicitDefEqProofs (disch := omega) [go_sem, -List.getD_eq_getElem?_getD, ite_yes]
        refine LoopEnd.of (k + 1) (by omega) (by omega) (weakS_mk [some 0, some 1] rfl ?_ (by simp -dsimp -implicitDefEqProofs (disch := omega) [go_sem, -List.getD_eq_getElem?_getD, ite_yes, ht, ul, y1]))
        simp -dsimp -implicitDefEqProofs (disch := omega) [go_sem, -List.getD_eq_getElem?_getD, ite_yes]
        exact ⟨.inl ⟨by rw [y2], by simp [flat]⟩, .inl ⟨rfl, nmE_flat _⟩⟩
    · have hk' : k = l.length - 1 := by omega
      have hp : highP l k = (((redN (useN l (bestN l k)) (ddN l (bestN l k))).1 : Int), ((redN (useN l (bestN l k)) (ddN l (bestN l k))).2 : Int)) := by unfold highP; rw [if_neg (by omega)]
      rw [← hk']
      have hlt' : ¬ (k : Int) < ((l.length - 1 : Nat) : Int) := by omega
      simp -dsimp -implicitDefEqProofs (disch := omega) [go_sem, -List.getD_eq_getElem?_getD, ite_yes, hlt, hlt', ← hk']
      refine ADraw.quiet (by kernel_rfl) (by kernel_rfl) (by kernel_rfl) ?_
      simp -dsimp -implicitDefEqProofs (disch := omega) [go_sem, -List.getD_eq_getElem?_getD, ite_yes]
      exact fin_flat rfl (by rw [hp])
end Go.Proofs.YthnnbgggfpempaaDoor
