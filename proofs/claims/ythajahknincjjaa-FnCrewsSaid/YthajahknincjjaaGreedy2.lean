/- GreedyAssignment: the sort, the smallest load, and the program's side. -/
import Derived.Test.YthajahknincjjaaGreedy
namespace Go.Proofs.Ythajahknincjjaa
open Go.Am
set_option linter.unusedVariables false
set_option linter.unusedSimpArgs false
set_option maxRecDepth 100000
set_option maxHeartbeats 4000000

theorem wl_sl {t len c m j : Nat} {js : List (Option Nat)} (ht : t < m) : WL (sg m js) (m + j) [.slice (some ⟨t, 0, none⟩) len c] [.slice (some ⟨t, 0, none⟩) len c] :=
  have h : t < m + j := by omega
  .inr ⟨⟨h, .inl ⟨t, c, by simp [sg, ht], rfl⟩⟩, trivial⟩
theorem stable_A (l : List Tk) (hl7 : l.length ≤ 7) (c cv e : Nat) (H : Heap) (t b tv : Nat) (hb : H.get t = some ⟨(outG l 0).flatMap nmE, true, e, 1⟩) (hS : Sl tkE H tv l) (hbl : b < H.length) (cb : aCells H ⟨b, 0, none⟩ 1 = some [.slice (some ⟨tv, 0, none⟩) l.length cv]) (hbt : b ≠ t) (hvt : tv ≠ t) :
    AFunC Try.prog 50 [.slice (some ⟨t, 0, none⟩) l.length c, .int .i64 l.length, .func (.func 36) #[] #[.pointer (some ⟨b, 0, none⟩)]] H (.tuple #[]) (H.set t (some ⟨(ordG l l.length).flatMap nmE, true, e, 1⟩)) := by
  refine AFunC.of_body Try.func50 (by kernel_rfl) rfl (by kernel_rfl) (by simp [Try.ntmps50]) ?_
  have ht := Heap.get_lt hb
  have h1 : ¬ (20 : Int) ≤ (l.length : Int) := by omega
  have h2 : ¬ (20 : Int) < (l.length : Int) := by omega
  have h1n : ¬ 20 ≤ l.length := by omega
  have h2n : ¬ 20 < l.length := by omega
  simp -dsimp -implicitDefEqProofs (disch := omega) [go_sem, -List.getD_eq_getElem?_getD, ite_yes, ht, hbl]
  refine ALoop.intro (ι := Unit) (fun _ => True) (fun _ => [(0, .slice (some ⟨t, 0, none⟩) l.length c), (1, .int .i64 l.length), (2, .func (.func 36) #[] #[.pointer (some ⟨b, 0, none⟩)]), (6, .int .i64 20), (7, .int .i64 0), (8, .int .i64 20)]) (fun _ => H) (fun _ => 0) () trivial ?_ ?_
  · exact weakS_same (by simp -dsimp -implicitDefEqProofs (disch := omega) [go_sem, -List.getD_eq_getElem?_getD, ite_yes, ht, hbl])
  intro _ _
  simp -dsimp -implicitDefEqProofs (disch := omega) [go_sem, -List.getD_eq_getElem?_getD, ite_yes, h1, h1n, ht, hbl]
  refine ACall.of (insCmp_A l hl7 (by omega) c cv e H t b tv hb hS hbl cb hbt hvt) ?_
  simp -dsimp -implicitDefEqProofs (disch := omega) [go_sem, -List.getD_eq_getElem?_getD, ite_yes, ht, hbl]
  refine ALoop.intro (ι := Unit) (fun _ => True) (fun _ => [(1, .int .i64 l.length), (6, .int .i64 20)]) (fun _ => H.set t (some ⟨(ordG l l.length).flatMap nmE, true, e, 1⟩)) (fun _ => 0) () trivial ?_ ?_
  · exact weakS_set ht (nmE_flat _) rfl rfl (by simp -dsimp -implicitDefEqProofs (disch := omega) [go_sem, -List.getD_eq_getElem?_getD, ite_yes, ht, hbl])
  intro _ _
  simp -dsimp -implicitDefEqProofs (disch := omega) [go_sem, -List.getD_eq_getElem?_getD, ite_yes, h2, h2n]
  exact fin_set ht (nmE_flat (ordG l l.length)) rfl rfl rfl rfl
theorem sortStable_A (l : List Tk) (hl7 : l.length ≤ 7) (c cv e : Nat) (H : Heap) (t b tv : Nat) (hb : H.get t = some ⟨(outG l 0).flatMap nmE, true, e, 1⟩) (hS : Sl tkE H tv l) (hbl : b < H.length) (cb : aCells H ⟨b, 0, none⟩ 1 = some [.slice (some ⟨tv, 0, none⟩) l.length cv]) (hbt : b ≠ t) (hvt : tv ≠ t) :
    AFunC Try.prog 35 [.slice (some ⟨t, 0, none⟩) l.length c, .func (.func 36) #[] #[.pointer (some ⟨b, 0, none⟩)]] H (.tuple #[]) (H.set t (some ⟨(ordG l l.length).flatMap nmE, true, e, 1⟩)) := by
  refine AFunC.of_body Try.func35 (by kernel_rfl) rfl (by kernel_rfl) (by simp [Try.ntmps35]) ?_
  have ht := Heap.get_lt hb
  simp -dsimp -implicitDefEqProofs (disch := omega) [go_sem, -List.getD_eq_getElem?_getD, ite_yes, ht, hbl]
  refine ACall.of (stable_A l hl7 c cv e H t b tv hb hS hbl cb hbt hvt) ?_
  simp -dsimp -implicitDefEqProofs (disch := omega) [go_sem, -List.getD_eq_getElem?_getD, ite_yes]
  exact fin_set ht (nmE_flat (ordG l l.length)) rfl rfl rfl rfl
/-- the place of the first smallest of s(0) to s(k) -/
def amTo (s : List Int) : Nat → Nat
  | 0 => 0
  | k + 1 => if s.getD (k + 1) 0 < s.getD (amTo s k) 0 then k + 1 else amTo s k
theorem amTo_le (s : List Int) : ∀ k, amTo s k ≤ k
  | 0 => Nat.le_refl _
  | k + 1 => by have := amTo_le s k; rw [amTo]; split <;> omega
theorem amTo_first (s : List Int) : ∀ k, (∀ i, i ≤ k → s.getD (amTo s k) 0 ≤ s.getD i 0) ∧ (∀ i, i < amTo s k → s.getD (amTo s k) 0 < s.getD i 0)
  | 0 => ⟨fun i hi => by rw [show i = 0 by omega]; exact Int.le_refl _, fun i hi => absurd hi (Nat.not_lt_zero _)⟩
  | k + 1 => by
    obtain ⟨h1, h2⟩ := amTo_first s k
    have hle := amTo_le s k
    rw [amTo]
    split
    · rename_i h
      refine ⟨fun i hi => ?_, fun i hi => ?_⟩
      · rcases Nat.lt_or_ge i (k + 1) with h' | h'
        · have := h1 i (by omega); omega
        · rw [show i = k + 1 by omega]; exact Int.le_refl _
      · have := h1 i (by omega); omega
    · rename_i h
      refine ⟨fun i hi => ?_, h2⟩
      rcases Nat.lt_or_ge i (k + 1) with h' | h'
      · exact h1 i (by omega)
      · rw [show i = k + 1 by omega]; omega
def am (s : List Int) : Nat := amTo s (s.length - 1)
theorem am_lt {s : List Int} (h : 0 < s.length) : am s < s.length := by have := amTo_le s (s.length - 1); unfold am; omega
theorem minNm_A (s : List Int) (h0 : 0 < s.length) (hl : s.length ≤ 1048577) (c : Nat) (H : Heap) (t : Nat) (hS : Sl nmE H t s) :
    AFunC Try.prog 39 [.slice (some ⟨t, 0, none⟩) s.length c] H (.int .i64 (s.getD (am s) 0)) H := by
  refine AFunC.of_body Try.func39 (by kernel_rfl) rfl (by kernel_rfl) (by simp [Try.ntmps39]) ?_
  have ht := hS.lt
  have cs := fun k hk => hS.one (g := fun n => Value.int .i64 n) 0 k hk
  have c0 := cs 0 h0
  have h1 : ¬ (s.length : Int) < 1 := by omega
  have h2 : ¬ s.length < 1 := by omega
  simp -dsimp -implicitDefEqProofs (disch := omega) [go_sem, -List.getD_eq_getElem?_getD, ite_yes, h1, h2, c0, h0]
  refine ALoop.intro (ι := Nat) (fun k => k + 1 ≤ s.length) (fun k => [(0, .slice (some ⟨t, 0, none⟩) s.length c), (3, .int .i64 (s.getD (amTo s k) 0)), (4, .int .i64 ((k : Int) + 1))]) (fun _ => H) (fun k => s.length - k) 0 (by omega) ?_ ?_
  · exact weakS_same (by simp -dsimp -implicitDefEqProofs (disch := omega) [go_sem, -List.getD_eq_getElem?_getD, ite_yes, ht, amTo])
  · intro k hk
    by_cases hlt : k + 1 < s.length
    · have e : s.getD (amTo s (k + 1)) 0 = if s.getD (k + 1) 0 < s.getD (amTo s k) 0 then s.getD (k + 1) 0 else s.getD (amTo s k) 0 := by rw [amTo]; split <;> rfl
      have hlti : (k : Int) + 1 < (s.length : Int) := by omega
      have hk1 : ((k : Int) + 1).toNat = k + 1 := by omega
      have c1 := cs (k + 1) hlt
      simp -dsimp -implicitDefEqProofs (disch := omega) [go_sem, -List.getD_eq_getElem?_getD, ite_yes, hlti, hlt, hk1, c1]
      exact LoopEnd.of (k + 1) (by omega) (by omega) (weakS_same (by simp -dsimp -implicitDefEqProofs (disch := omega) [go_sem, -List.getD_eq_getElem?_getD, ite_yes, ht, e]))
    · have hlti : ¬ (k : Int) + 1 < (s.length : Int) := by omega
      simp -dsimp -implicitDefEqProofs (disch := omega) [go_sem, -List.getD_eq_getElem?_getD, ite_yes, hlti, hlt]
      exact fin_flat0 rfl (by rw [am, show s.length - 1 = k by omega])
theorem indexMin_A (s : List Int) (h0 : 0 < s.length) (hl : s.length ≤ 1048577) (c : Nat) (H : Heap) (t : Nat) (hS : Sl nmE H t s) :
    AFunC Try.prog 38 [.slice (some ⟨t, 0, none⟩) s.length c, .int .i64 (s.getD (am s) 0)] H (.int .i64 (am s)) H := by
  refine AFunC.of_body Try.func38 (by kernel_rfl) rfl (by kernel_rfl) (by simp [Try.ntmps38]) ?_
  have ht := hS.lt
  have cs := fun k hk => hS.one (g := fun n => Value.int .i64 n) 0 k hk
  have hal := am_lt h0
  obtain ⟨f1, f2⟩ := amTo_first s (s.length - 1)
  rw [show amTo s (s.length - 1) = am s from rfl] at f1 f2
  generalize hm : s.getD (am s) 0 = m at *
  simp -dsimp -implicitDefEqProofs (disch := omega) [go_sem, -List.getD_eq_getElem?_getD, ite_yes]
  refine ALoop.intro (ι := Nat) (fun k => k ≤ am s) (fun k => [(0, .slice (some ⟨t, 0, none⟩) s.length c), (1, .int .i64 m), (7, .int .i64 s.length), (8, .int .i64 k)]) (fun _ => H) (fun k => s.length - k) 0 (by omega) ?_ ?_
  · exact weakS_same (by simp -dsimp -implicitDefEqProofs (disch := omega) [go_sem, -List.getD_eq_getElem?_getD, ite_yes, ht])
  · intro k hk
    have hlt : k < s.length := by omega
    have c1 := cs k hlt
    by_cases h : k = am s
    · subst h
      rw [hm] at c1
      simp -dsimp -implicitDefEqProofs (disch := omega) [go_sem, -List.getD_eq_getElem?_getD, ite_yes, hlt, c1]
      exact fin_flat0 rfl rfl
    · have h3 := f2 k (by omega)
      have h4 : ¬ m = s.getD k 0 := by omega
      simp -dsimp -implicitDefEqProofs (disch := omega) [go_sem, -List.getD_eq_getElem?_getD, ite_yes, hlt, c1, h4]
      exact LoopEnd.of (k + 1) (by omega) (by omega) (weakS_same (by simp -dsimp -implicitDefEqProofs (disch := omega) [go_sem, -List.getD_eq_getElem?_getD, ite_yes, ht]))
/-- what is given away, and the loads, after j tasks -/
def grTo (l : List Tk) (crews : Int) : Nat → List Int × List Int
  | 0 => (List.replicate l.length 0, List.replicate crews.toNat 0)
  | j + 1 => ((grTo l crews j).1.set ((ordG l l.length).getD j 0).toNat (am (grTo l crews j).2), (grTo l crews j).2.set (am (grTo l crews j).2) ((grTo l crews j).2.getD (am (grTo l crews j).2) 0 + mi l ((ordG l l.length).getD j 0)))
theorem grTo_length (l : List Tk) (crews : Int) : ∀ j, (grTo l crews j).1.length = l.length ∧ (grTo l crews j).2.length = crews.toNat
  | 0 => by simp [grTo]
  | j + 1 => by have := grTo_length l crews j; simp only [grTo, List.length_set]; exact this
theorem getD_set_int {s : List Int} {i j : Nat} {x : Int} : (s.set i x).getD j 0 = if i = j ∧ i < s.length then x else s.getD j 0 := by
  simp only [List.getD_eq_getElem?_getD, List.getElem?_set]
  by_cases h : i = j
  · subst h
    by_cases h2 : i < s.length
    · simp [h2]
    · simp [h2]
  · simp [h]
theorem grTo_rng {l : List Tk} (hg : goodT l = true) (crews : Int) : ∀ j : Nat, j ≤ l.length → ∀ q, 0 ≤ (grTo l crews j).2.getD q 0 ∧ (grTo l crews j).2.getD q 0 ≤ 480 * (j : Int)
  | 0, _, q => by
    have : (grTo l crews 0).2.getD q 0 = 0 := by
      simp only [grTo, List.getD_eq_getElem?_getD, List.getElem?_replicate]
      split <;> rfl
    rw [this]; simp
  | j + 1, hj, q => by
    have ih := grTo_rng hg crews j (by omega)
    simp only [grTo]
    rw [getD_set_int]
    split
    · have h1 := ih (am (grTo l crews j).2)
      have hjl : j < (ordG l l.length).length := by rw [ordG_length]; omega
      obtain ⟨y, hy, hyl⟩ := ordG_mem l l.length ((ordG l l.length).getD j 0) (by rw [List.getD_eq_getElem?_getD, List.getElem?_eq_getElem hjl]; exact List.getElem_mem hjl)
      have h2 := (goodT_at hg).2 y hyl
      rw [hy]
      unfold mi
      rw [Int.toNat_natCast]
      omega
    · have h1 := ih q
      omega
theorem grN_flat (n : Nat) : (List.replicate n (Value.int .i64 0)).all flat = true := by simp [flat]
/-- the numbers below k -/
def upI (k : Nat) : List Int := (List.range k).map Int.ofNat
theorem upI_length (k : Nat) : (upI k).length = k := by simp [upI]
theorem upI_succ (k : Nat) : upI (k + 1) = upI k ++ [(k : Int)] := by unfold upI; rw [List.range_succ, List.map_append]; rfl
theorem upI_out (l : List Tk) : upI l.length = outG l 0 := by
  unfold outG upI fromI
  rw [List.range_eq_range']; rfl
theorem iGreedy_bad (l : List Tk) (crews : Int) (hl : l.length ≤ 1048577) (c : Nat) (H : Heap) (t : Nat) (hS : Sl tkE H t l) (hb : askOk l crews = false) :
    AFunC Try.prog 11 [.slice (some ⟨t, 0, none⟩) l.length c, .int .i64 crews] H (.tuple #[.slice none 0 0, .bool false]) H := by
  refine AFunC.of_body Try.func11 (by kernel_rfl) rfl (by kernel_rfl) (by simp [Try.ntmps11]) ?_
  have ht := hS.lt
  simp -dsimp -implicitDefEqProofs (disch := omega) [go_sem, -List.getD_eq_getElem?_getD, ite_yes, ht]
  refine ACall.of (areCrews_A l crews hl c _ t hS.app) ?_
  simp -dsimp -implicitDefEqProofs (disch := omega) [go_sem, -List.getD_eq_getElem?_getD, ite_yes, hb]
  exact fin_flat rfl rfl
theorem iGreedy_good (l : List Tk) (crews : Int) (hl : l.length ≤ 1048577) (c : Nat) (H : Heap) (t : Nat) (hS : Sl tkE H t l) (hg : askOk l crews = true) :
    AFunC Try.prog 11 [.slice (some ⟨t, 0, none⟩) l.length c, .int .i64 crews] H (.tuple #[.slice (some ⟨H.length, 0, none⟩) (grTo l crews l.length).1.length 0, .bool true]) (H ++ [some ⟨(grTo l crews l.length).1.flatMap nmE, true, 3, 1⟩]) := by
  refine AFunC.of_body Try.func11 (by kernel_rfl) rfl (by kernel_rfl) (by simp [Try.ntmps11]) ?_
  have ht := hS.lt
  have hgt : goodT l = true ∧ 1 ≤ crews ∧ crews ≤ 3 := by
    have := hg
    simp only [askOk, inB, Bool.and_eq_true, decide_eq_true_eq] at this
    exact this
  have hl7 := (goodT_at hgt.1).1
  simp -dsimp -implicitDefEqProofs (disch := omega) [go_sem, -List.getD_eq_getElem?_getD, ite_yes, ht]
  refine ACall.of (areCrews_A l crews hl c _ t hS.app) ?_
  simp -dsimp -implicitDefEqProofs (disch := omega) [go_sem, -List.getD_eq_getElem?_getD, ite_yes, hg, ht]
  refine ADraw.mid [(1, .int .i64 crews), (2, .pointer (some ⟨H.length, 0, none⟩)), (6, .slice (some ⟨H.length + 1, 0, none⟩) 0 0), (7, .slice (some ⟨H.length + 2, 0, none⟩) crews.toNat crews.toNat), (8, .slice (some ⟨H.length + 3, 0, none⟩) l.length l.length)] (H ++ [some ⟨[.slice (some ⟨t, 0, none⟩) l.length c], true, 24, 1⟩, some ⟨[], true, 3, 1⟩, some ⟨List.replicate crews.toNat (.int .i64 0), true, 3, 1⟩, some ⟨List.replicate l.length (.int .i64 0), true, 3, 1⟩]) ?_ ?_
  · skip
    refine ADraw.any H (by kernel_rfl) (by first | exact SubH.refl | exact SubH.app | exact SubH.both (by simp [subL])) ?_
    refine AAny.takes (fuel := 8) (by kernel_rfl) (by kernel_rfl) [1] (by kernel_rfl) (by kernel_rfl) ?_
    simp -dsimp -implicitDefEqProofs (disch := omega) [go_sem, -List.getD_eq_getElem?_getD, ite_yes, ht]
    refine AAny.three 7 0 2 3 (by kernel_rfl) (by kernel_rfl) (by kernel_rfl) ?_ ?_ ?_
    · simp -dsimp -implicitDefEqProofs (disch := omega) [go_sem, -List.getD_eq_getElem?_getD, ite_yes, ht]
      first | refine AAt.of (by first | exact SubH.refl | exact SubH.app | exact SubH.both (by simp [subL])) ?_ | (refine ⟨?_, AAt.of (by first | exact SubH.refl | exact SubH.app | exact SubH.both (by simp [subL])) ?_⟩; · omega)
      refine AAny.takes (fuel := 6) (by kernel_rfl) (by kernel_rfl) [6] (by kernel_rfl) (by kernel_rfl) ?_
      simp -dsimp -implicitDefEqProofs (disch := omega) [go_sem, -List.getD_eq_getElem?_getD, ite_yes, ht]
      refine AAny.two 5 2 3 (by kernel_rfl) (by kernel_rfl) (by kernel_rfl) ?_ ?_
      · simp -dsimp -implicitDefEqProofs (disch := omega) [go_sem, -List.getD_eq_getElem?_getD, ite_yes, ht]
        first | refine AAt.of (by first | exact SubH.refl | exact SubH.app | exact SubH.both (by simp [subL])) ?_ | (refine ⟨?_, AAt.of (by first | exact SubH.refl | exact SubH.app | exact SubH.both (by simp [subL])) ?_⟩; · omega)
        refine AAny.takes (fuel := 4) (by kernel_rfl) (by kernel_rfl) [7] (by kernel_rfl) (by kernel_rfl) ?_
        simp -dsimp -implicitDefEqProofs (disch := omega) [go_sem, -List.getD_eq_getElem?_getD, ite_yes, ht]
        refine AAny.one 3 3 (by kernel_rfl) (by kernel_rfl) (by kernel_rfl) ?_
        simp -dsimp -implicitDefEqProofs (disch := omega) [go_sem, -List.getD_eq_getElem?_getD, ite_yes, ht]
        first | refine AAt.of (by first | exact SubH.refl | exact SubH.app | exact SubH.both (by simp [subL])) ?_ | (refine ⟨?_, AAt.of (by first | exact SubH.refl | exact SubH.app | exact SubH.both (by simp [subL])) ?_⟩; · omega)
        refine AAny.takes (fuel := 2) (by kernel_rfl) (by kernel_rfl) [4] (by kernel_rfl) (by kernel_rfl) ?_
        simp -dsimp -implicitDefEqProofs (disch := omega) [go_sem, -List.getD_eq_getElem?_getD, ite_yes, ht]
        refine AAny.one 1 5 (by kernel_rfl) (by kernel_rfl) (by kernel_rfl) ?_
        simp -dsimp -implicitDefEqProofs (disch := omega) [go_sem, -List.getD_eq_getElem?_getD, ite_yes, ht]
        first | refine AAt.of (by first | exact SubH.refl | exact SubH.app | exact SubH.both (by simp [subL])) ?_ | (refine ⟨?_, AAt.of (by first | exact SubH.refl | exact SubH.app | exact SubH.both (by simp [subL])) ?_⟩; · omega)
        refine AAny.takes (fuel := 0) (by kernel_rfl) (by kernel_rfl) [8] (by kernel_rfl) (by kernel_rfl) ?_
        simp -dsimp -implicitDefEqProofs (disch := omega) [go_sem, -List.getD_eq_getElem?_getD, ite_yes, ht]
        refine AAny.done (by kernel_rfl) ?_
        simp -dsimp -implicitDefEqProofs (disch := omega) [go_sem, -List.getD_eq_getElem?_getD, ite_yes, ht]
        first | (refine ⟨weakS_mk [some 0, some 1, some 2, some 3] rfl ?_ ?_⟩; (· simp -dsimp -implicitDefEqProofs (disch := omega) [go_sem, -List.getD_eq_getElem?_getD, ite_yes]; refine ⟨wl_sl ht, .inl ⟨rfl, rfl⟩, .inl ⟨rfl, grN_flat _⟩, .inl ⟨rfl, grN_flat _⟩⟩); (· simp -dsimp -implicitDefEqProofs (disch := omega) [go_sem, -List.getD_eq_getElem?_getD, ite_yes, ht])) | (refine ⟨weakS_mk [some 0, some 1, some 3, some 2] rfl ?_ ?_⟩; (· simp -dsimp -implicitDefEqProofs (disch := omega) [go_sem, -List.getD_eq_getElem?_getD, ite_yes]; refine ⟨wl_sl ht, .inl ⟨rfl, rfl⟩, .inl ⟨rfl, grN_flat _⟩, .inl ⟨rfl, grN_flat _⟩⟩); (· simp -dsimp -implicitDefEqProofs (disch := omega) [go_sem, -List.getD_eq_getElem?_getD, ite_yes, ht])) | (refine ⟨weakS_mk [some 0, some 2, some 1, some 3] rfl ?_ ?_⟩; (· simp -dsimp -implicitDefEqProofs (disch := omega) [go_sem, -List.getD_eq_getElem?_getD, ite_yes]; refine ⟨wl_sl ht, .inl ⟨rfl, rfl⟩, .inl ⟨rfl, grN_flat _⟩, .inl ⟨rfl, grN_flat _⟩⟩); (· simp -dsimp -implicitDefEqProofs (disch := omega) [go_sem, -List.getD_eq_getElem?_getD, ite_yes, ht])) | (refine ⟨weakS_mk [some 0, some 2, some 3, some 1] rfl ?_ ?_⟩; (· simp -dsimp -implicitDefEqProofs (disch := omega) [go_sem, -List.getD_eq_getElem?_getD, ite_yes]; refine ⟨wl_sl ht, .inl ⟨rfl, rfl⟩, .inl ⟨rfl, grN_flat _⟩, .inl ⟨rfl, grN_flat _⟩⟩); (· simp -dsimp -implicitDefEqProofs (disch := omega) [go_sem, -List.getD_eq_getElem?_getD, ite_yes, ht])) | (refine ⟨weakS_mk [some 0, some 3, some 1, some 2] rfl ?_ ?_⟩; (· simp -dsimp -implicitDefEqProofs (disch := omega) [go_sem, -List.getD_eq_getElem?_getD, ite_yes]; refine ⟨wl_sl ht, .inl ⟨rfl, rfl⟩, .inl ⟨rfl, grN_flat _⟩, .inl ⟨rfl, grN_flat _⟩⟩); (· simp -dsimp -implicitDefEqProofs (disch := omega) [go_sem, -List.getD_eq_getElem?_getD, ite_yes, ht])) | (refine ⟨weakS_mk [some 0, some 3, some 2, some 1] rfl ?_ ?_⟩; (· simp -dsimp -implicitDefEqProofs (disch := omega) [go_sem, -List.getD_eq_getElem?_getD, ite_yes]; refine ⟨wl_sl ht, .inl ⟨rfl, rfl⟩, .inl ⟨rfl, grN_flat _⟩, .inl ⟨rfl, grN_flat _⟩⟩); (· simp -dsimp -implicitDefEqProofs (disch := omega) [go_sem, -List.getD_eq_getElem?_getD, ite_yes, ht]))
      · simp -dsimp -implicitDefEqProofs (disch := omega) [go_sem, -List.getD_eq_getElem?_getD, ite_yes, ht]
        first | refine AAt.of (by first | exact SubH.refl | exact SubH.app | exact SubH.both (by simp [subL])) ?_ | (refine ⟨?_, AAt.of (by first | exact SubH.refl | exact SubH.app | exact SubH.both (by simp [subL])) ?_⟩; · omega)
        refine AAny.takes (fuel := 4) (by kernel_rfl) (by kernel_rfl) [4] (by kernel_rfl) (by kernel_rfl) ?_
        simp -dsimp -implicitDefEqProofs (disch := omega) [go_sem, -List.getD_eq_getElem?_getD, ite_yes, ht]
        refine AAny.two 3 2 5 (by kernel_rfl) (by kernel_rfl) (by kernel_rfl) ?_ ?_
        · simp -dsimp -implicitDefEqProofs (disch := omega) [go_sem, -List.getD_eq_getElem?_getD, ite_yes, ht]
          first | refine AAt.of (by first | exact SubH.refl | exact SubH.app | exact SubH.both (by simp [subL])) ?_ | (refine ⟨?_, AAt.of (by first | exact SubH.refl | exact SubH.app | exact SubH.both (by simp [subL])) ?_⟩; · omega)
          refine AAny.takes (fuel := 2) (by kernel_rfl) (by kernel_rfl) [7] (by kernel_rfl) (by kernel_rfl) ?_
          simp -dsimp -implicitDefEqProofs (disch := omega) [go_sem, -List.getD_eq_getElem?_getD, ite_yes, ht]
          refine AAny.one 1 5 (by kernel_rfl) (by kernel_rfl) (by kernel_rfl) ?_
          simp -dsimp -implicitDefEqProofs (disch := omega) [go_sem, -List.getD_eq_getElem?_getD, ite_yes, ht]
          first | refine AAt.of (by first | exact SubH.refl | exact SubH.app | exact SubH.both (by simp [subL])) ?_ | (refine ⟨?_, AAt.of (by first | exact SubH.refl | exact SubH.app | exact SubH.both (by simp [subL])) ?_⟩; · omega)
          refine AAny.takes (fuel := 0) (by kernel_rfl) (by kernel_rfl) [8] (by kernel_rfl) (by kernel_rfl) ?_
          simp -dsimp -implicitDefEqProofs (disch := omega) [go_sem, -List.getD_eq_getElem?_getD, ite_yes, ht]
          refine AAny.done (by kernel_rfl) ?_
          simp -dsimp -implicitDefEqProofs (disch := omega) [go_sem, -List.getD_eq_getElem?_getD, ite_yes, ht]
          first | (refine ⟨weakS_mk [some 0, some 1, some 2, some 3] rfl ?_ ?_⟩; (· simp -dsimp -implicitDefEqProofs (disch := omega) [go_sem, -List.getD_eq_getElem?_getD, ite_yes]; refine ⟨wl_sl ht, .inl ⟨rfl, rfl⟩, .inl ⟨rfl, grN_flat _⟩, .inl ⟨rfl, grN_flat _⟩⟩); (· simp -dsimp -implicitDefEqProofs (disch := omega) [go_sem, -List.getD_eq_getElem?_getD, ite_yes, ht])) | (refine ⟨weakS_mk [some 0, some 1, some 3, some 2] rfl ?_ ?_⟩; (· simp -dsimp -implicitDefEqProofs (disch := omega) [go_sem, -List.getD_eq_getElem?_getD, ite_yes]; refine ⟨wl_sl ht, .inl ⟨rfl, rfl⟩, .inl ⟨rfl, grN_flat _⟩, .inl ⟨rfl, grN_flat _⟩⟩); (· simp -dsimp -implicitDefEqProofs (disch := omega) [go_sem, -List.getD_eq_getElem?_getD, ite_yes, ht])) | (refine ⟨weakS_mk [some 0, some 2, some 1, some 3] rfl ?_ ?_⟩; (· simp -dsimp -implicitDefEqProofs (disch := omega) [go_sem, -List.getD_eq_getElem?_getD, ite_yes]; refine ⟨wl_sl ht, .inl ⟨rfl, rfl⟩, .inl ⟨rfl, grN_flat _⟩, .inl ⟨rfl, grN_flat _⟩⟩); (· simp -dsimp -implicitDefEqProofs (disch := omega) [go_sem, -List.getD_eq_getElem?_getD, ite_yes, ht])) | (refine ⟨weakS_mk [some 0, some 2, some 3, some 1] rfl ?_ ?_⟩; (· simp -dsimp -implicitDefEqProofs (disch := omega) [go_sem, -List.getD_eq_getElem?_getD, ite_yes]; refine ⟨wl_sl ht, .inl ⟨rfl, rfl⟩, .inl ⟨rfl, grN_flat _⟩, .inl ⟨rfl, grN_flat _⟩⟩); (· simp -dsimp -implicitDefEqProofs (disch := omega) [go_sem, -List.getD_eq_getElem?_getD, ite_yes, ht])) | (refine ⟨weakS_mk [some 0, some 3, some 1, some 2] rfl ?_ ?_⟩; (· simp -dsimp -implicitDefEqProofs (disch := omega) [go_sem, -List.getD_eq_getElem?_getD, ite_yes]; refine ⟨wl_sl ht, .inl ⟨rfl, rfl⟩, .inl ⟨rfl, grN_flat _⟩, .inl ⟨rfl, grN_flat _⟩⟩); (· simp -dsimp -implicitDefEqProofs (disch := omega) [go_sem, -List.getD_eq_getElem?_getD, ite_yes, ht])) | (refine ⟨weakS_mk [some 0, some 3, some 2, some 1] rfl ?_ ?_⟩; (· simp -dsimp -implicitDefEqProofs (disch := omega) [go_sem, -List.getD_eq_getElem?_getD, ite_yes]; refine ⟨wl_sl ht, .inl ⟨rfl, rfl⟩, .inl ⟨rfl, grN_flat _⟩, .inl ⟨rfl, grN_flat _⟩⟩); (· simp -dsimp -implicitDefEqProofs (disch := omega) [go_sem, -List.getD_eq_getElem?_getD, ite_yes, ht]))
        · simp -dsimp -implicitDefEqProofs (disch := omega) [go_sem, -List.getD_eq_getElem?_getD, ite_yes, ht]
          first | refine AAt.of (by first | exact SubH.refl | exact SubH.app | exact SubH.both (by simp [subL])) ?_ | (refine ⟨?_, AAt.of (by first | exact SubH.refl | exact SubH.app | exact SubH.both (by simp [subL])) ?_⟩; · omega)
          refine AAny.one 2 2 (by kernel_rfl) (by kernel_rfl) (by kernel_rfl) ?_
          simp -dsimp -implicitDefEqProofs (disch := omega) [go_sem, -List.getD_eq_getElem?_getD, ite_yes, ht]
          first | refine AAt.of (by first | exact SubH.refl | exact SubH.app | exact SubH.both (by simp [subL])) ?_ | (refine ⟨?_, AAt.of (by first | exact SubH.refl | exact SubH.app | exact SubH.both (by simp [subL])) ?_⟩; · omega)
          refine AAny.takes (fuel := 0) (by kernel_rfl) (by kernel_rfl) [7, 8] (by kernel_rfl) (by kernel_rfl) ?_
          simp -dsimp -implicitDefEqProofs (disch := omega) [go_sem, -List.getD_eq_getElem?_getD, ite_yes, ht]
          refine AAny.done (by kernel_rfl) ?_
          simp -dsimp -implicitDefEqProofs (disch := omega) [go_sem, -List.getD_eq_getElem?_getD, ite_yes, ht]
          first | (refine ⟨weakS_mk [some 0, some 1, some 2, some 3] rfl ?_ ?_⟩; (· simp -dsimp -implicitDefEqProofs (disch := omega) [go_sem, -List.getD_eq_getElem?_getD, ite_yes]; refine ⟨wl_sl ht, .inl ⟨rfl, rfl⟩, .inl ⟨rfl, grN_flat _⟩, .inl ⟨rfl, grN_flat _⟩⟩); (· simp -dsimp -implicitDefEqProofs (disch := omega) [go_sem, -List.getD_eq_getElem?_getD, ite_yes, ht])) | (refine ⟨weakS_mk [some 0, some 1, some 3, some 2] rfl ?_ ?_⟩; (· simp -dsimp -implicitDefEqProofs (disch := omega) [go_sem, -List.getD_eq_getElem?_getD, ite_yes]; refine ⟨wl_sl ht, .inl ⟨rfl, rfl⟩, .inl ⟨rfl, grN_flat _⟩, .inl ⟨rfl, grN_flat _⟩⟩); (· simp -dsimp -implicitDefEqProofs (disch := omega) [go_sem, -List.getD_eq_getElem?_getD, ite_yes, ht])) | (refine ⟨weakS_mk [some 0, some 2, some 1, some 3] rfl ?_ ?_⟩; (· simp -dsimp -implicitDefEqProofs (disch := omega) [go_sem, -List.getD_eq_getElem?_getD, ite_yes]; refine ⟨wl_sl ht, .inl ⟨rfl, rfl⟩, .inl ⟨rfl, grN_flat _⟩, .inl ⟨rfl, grN_flat _⟩⟩); (· simp -dsimp -implicitDefEqProofs (disch := omega) [go_sem, -List.getD_eq_getElem?_getD, ite_yes, ht])) | (refine ⟨weakS_mk [some 0, some 2, some 3, some 1] rfl ?_ ?_⟩; (· simp -dsimp -implicitDefEqProofs (disch := omega) [go_sem, -List.getD_eq_getElem?_getD, ite_yes]; refine ⟨wl_sl ht, .inl ⟨rfl, rfl⟩, .inl ⟨rfl, grN_flat _⟩, .inl ⟨rfl, grN_flat _⟩⟩); (· simp -dsimp -implicitDefEqProofs (disch := omega) [go_sem, -List.getD_eq_getElem?_getD, ite_yes, ht])) | (refine ⟨weakS_mk [some 0, some 3, some 1, some 2] rfl ?_ ?_⟩; (· simp -dsimp -implicitDefEqProofs (disch := omega) [go_sem, -List.getD_eq_getElem?_getD, ite_yes]; refine ⟨wl_sl ht, .inl ⟨rfl, rfl⟩, .inl ⟨rfl, grN_flat _⟩, .inl ⟨rfl, grN_flat _⟩⟩); (· simp -dsimp -implicitDefEqProofs (disch := omega) [go_sem, -List.getD_eq_getElem?_getD, ite_yes, ht])) | (refine ⟨weakS_mk [some 0, some 3, some 2, some 1] rfl ?_ ?_⟩; (· simp -dsimp -implicitDefEqProofs (disch := omega) [go_sem, -List.getD_eq_getElem?_getD, ite_yes]; refine ⟨wl_sl ht, .inl ⟨rfl, rfl⟩, .inl ⟨rfl, grN_flat _⟩, .inl ⟨rfl, grN_flat _⟩⟩); (· simp -dsimp -implicitDefEqProofs (disch := omega) [go_sem, -List.getD_eq_getElem?_getD, ite_yes, ht]))
    · simp -dsimp -implicitDefEqProofs (disch := omega) [go_sem, -List.getD_eq_getElem?_getD, ite_yes, ht]
      first | refine AAt.of (by first | exact SubH.refl | exact SubH.app | exact SubH.both (by simp [subL])) ?_ | (refine ⟨?_, AAt.of (by first | exact SubH.refl | exact SubH.app | exact SubH.both (by simp [subL])) ?_⟩; · omega)
      refine AAny.two 6 0 3 (by kernel_rfl) (by kernel_rfl) (by kernel_rfl) ?_ ?_
      · simp -dsimp -implicitDefEqProofs (disch := omega) [go_sem, -List.getD_eq_getElem?_getD, ite_yes, ht]
        first | refine AAt.of (by first | exact SubH.refl | exact SubH.app | exact SubH.both (by simp [subL])) ?_ | (refine ⟨?_, AAt.of (by first | exact SubH.refl | exact SubH.app | exact SubH.both (by simp [subL])) ?_⟩; · omega)
        refine AAny.takes (fuel := 4) (by kernel_rfl) (by kernel_rfl) [6, 7] (by kernel_rfl) (by kernel_rfl) ?_
        simp -dsimp -implicitDefEqProofs (disch := omega) [go_sem, -List.getD_eq_getElem?_getD, ite_yes, ht]
        refine AAny.one 3 3 (by kernel_rfl) (by kernel_rfl) (by kernel_rfl) ?_
        simp -dsimp -implicitDefEqProofs (disch := omega) [go_sem, -List.getD_eq_getElem?_getD, ite_yes, ht]
        first | refine AAt.of (by first | exact SubH.refl | exact SubH.app | exact SubH.both (by simp [subL])) ?_ | (refine ⟨?_, AAt.of (by first | exact SubH.refl | exact SubH.app | exact SubH.both (by simp [subL])) ?_⟩; · omega)
        refine AAny.takes (fuel := 2) (by kernel_rfl) (by kernel_rfl) [4] (by kernel_rfl) (by kernel_rfl) ?_
        simp -dsimp -implicitDefEqProofs (disch := omega) [go_sem, -List.getD_eq_getElem?_getD, ite_yes, ht]
        refine AAny.one 1 5 (by kernel_rfl) (by kernel_rfl) (by kernel_rfl) ?_
        simp -dsimp -implicitDefEqProofs (disch := omega) [go_sem, -List.getD_eq_getElem?_getD, ite_yes, ht]
        first | refine AAt.of (by first | exact SubH.refl | exact SubH.app | exact SubH.both (by simp [subL])) ?_ | (refine ⟨?_, AAt.of (by first | exact SubH.refl | exact SubH.app | exact SubH.both (by simp [subL])) ?_⟩; · omega)
        refine AAny.takes (fuel := 0) (by kernel_rfl) (by kernel_rfl) [8] (by kernel_rfl) (by kernel_rfl) ?_
        simp -dsimp -implicitDefEqProofs (disch := omega) [go_sem, -List.getD_eq_getElem?_getD, ite_yes, ht]
        refine AAny.done (by kernel_rfl) ?_
        simp -dsimp -implicitDefEqProofs (disch := omega) [go_sem, -List.getD_eq_getElem?_getD, ite_yes, ht]
        first | (refine ⟨weakS_mk [some 0, some 1, some 2, some 3] rfl ?_ ?_⟩; (· simp -dsimp -implicitDefEqProofs (disch := omega) [go_sem, -List.getD_eq_getElem?_getD, ite_yes]; refine ⟨wl_sl ht, .inl ⟨rfl, rfl⟩, .inl ⟨rfl, grN_flat _⟩, .inl ⟨rfl, grN_flat _⟩⟩); (· simp -dsimp -implicitDefEqProofs (disch := omega) [go_sem, -List.getD_eq_getElem?_getD, ite_yes, ht])) | (refine ⟨weakS_mk [some 0, some 1, some 3, some 2] rfl ?_ ?_⟩; (· simp -dsimp -implicitDefEqProofs (disch := omega) [go_sem, -List.getD_eq_getElem?_getD, ite_yes]; refine ⟨wl_sl ht, .inl ⟨rfl, rfl⟩, .inl ⟨rfl, grN_flat _⟩, .inl ⟨rfl, grN_flat _⟩⟩); (· simp -dsimp -implicitDefEqProofs (disch := omega) [go_sem, -List.getD_eq_getElem?_getD, ite_yes, ht])) | (refine ⟨weakS_mk [some 0, some 2, some 1, some 3] rfl ?_ ?_⟩; (· simp -dsimp -implicitDefEqProofs (disch := omega) [go_sem, -List.getD_eq_getElem?_getD, ite_yes]; refine ⟨wl_sl ht, .inl ⟨rfl, rfl⟩, .inl ⟨rfl, grN_flat _⟩, .inl ⟨rfl, grN_flat _⟩⟩); (· simp -dsimp -implicitDefEqProofs (disch := omega) [go_sem, -List.getD_eq_getElem?_getD, ite_yes, ht])) | (refine ⟨weakS_mk [some 0, some 2, some 3, some 1] rfl ?_ ?_⟩; (· simp -dsimp -implicitDefEqProofs (disch := omega) [go_sem, -List.getD_eq_getElem?_getD, ite_yes]; refine ⟨wl_sl ht, .inl ⟨rfl, rfl⟩, .inl ⟨rfl, grN_flat _⟩, .inl ⟨rfl, grN_flat _⟩⟩); (· simp -dsimp -implicitDefEqProofs (disch := omega) [go_sem, -List.getD_eq_getElem?_getD, ite_yes, ht])) | (refine ⟨weakS_mk [some 0, some 3, some 1, some 2] rfl ?_ ?_⟩; (· simp -dsimp -implicitDefEqProofs (disch := omega) [go_sem, -List.getD_eq_getElem?_getD, ite_yes]; refine ⟨wl_sl ht, .inl ⟨rfl, rfl⟩, .inl ⟨rfl, grN_flat _⟩, .inl ⟨rfl, grN_flat _⟩⟩); (· simp -dsimp -implicitDefEqProofs (disch := omega) [go_sem, -List.getD_eq_getElem?_getD, ite_yes, ht])) | (refine ⟨weakS_mk [some 0, some 3, some 2, some 1] rfl ?_ ?_⟩; (· simp -dsimp -implicitDefEqProofs (disch := omega) [go_sem, -List.getD_eq_getElem?_getD, ite_yes]; refine ⟨wl_sl ht, .inl ⟨rfl, rfl⟩, .inl ⟨rfl, grN_flat _⟩, .inl ⟨rfl, grN_flat _⟩⟩); (· simp -dsimp -implicitDefEqProofs (disch := omega) [go_sem, -List.getD_eq_getElem?_getD, ite_yes, ht]))
      · simp -dsimp -implicitDefEqProofs (disch := omega) [go_sem, -List.getD_eq_getElem?_getD, ite_yes, ht]
        first | refine AAt.of (by first | exact SubH.refl | exact SubH.app | exact SubH.both (by simp [subL])) ?_ | (refine ⟨?_, AAt.of (by first | exact SubH.refl | exact SubH.app | exact SubH.both (by simp [subL])) ?_⟩; · omega)
        refine AAny.takes (fuel := 5) (by kernel_rfl) (by kernel_rfl) [4] (by kernel_rfl) (by kernel_rfl) ?_
        simp -dsimp -implicitDefEqProofs (disch := omega) [go_sem, -List.getD_eq_getElem?_getD, ite_yes, ht]
        refine AAny.two 4 0 5 (by kernel_rfl) (by kernel_rfl) (by kernel_rfl) ?_ ?_
        · simp -dsimp -implicitDefEqProofs (disch := omega) [go_sem, -List.getD_eq_getElem?_getD, ite_yes, ht]
          first | refine AAt.of (by first | exact SubH.refl | exact SubH.app | exact SubH.both (by simp [subL])) ?_ | (refine ⟨?_, AAt.of (by first | exact SubH.refl | exact SubH.app | exact SubH.both (by simp [subL])) ?_⟩; · omega)
          refine AAny.takes (fuel := 2) (by kernel_rfl) (by kernel_rfl) [6, 7] (by kernel_rfl) (by kernel_rfl) ?_
          simp -dsimp -implicitDefEqProofs (disch := omega) [go_sem, -List.getD_eq_getElem?_getD, ite_yes, ht]
          refine AAny.one 1 5 (by kernel_rfl) (by kernel_rfl) (by kernel_rfl) ?_
          simp -dsimp -implicitDefEqProofs (disch := omega) [go_sem, -List.getD_eq_getElem?_getD, ite_yes, ht]
          first | refine AAt.of (by first | exact SubH.refl | exact SubH.app | exact SubH.both (by simp [subL])) ?_ | (refine ⟨?_, AAt.of (by first | exact SubH.refl | exact SubH.app | exact SubH.both (by simp [subL])) ?_⟩; · omega)
          refine AAny.takes (fuel := 0) (by kernel_rfl) (by kernel_rfl) [8] (by kernel_rfl) (by kernel_rfl) ?_
          simp -dsimp -implicitDefEqProofs (disch := omega) [go_sem, -List.getD_eq_getElem?_getD, ite_yes, ht]
          refine AAny.done (by kernel_rfl) ?_
          simp -dsimp -implicitDefEqProofs (disch := omega) [go_sem, -List.getD_eq_getElem?_getD, ite_yes, ht]
          first | (refine ⟨weakS_mk [some 0, some 1, some 2, some 3] rfl ?_ ?_⟩; (· simp -dsimp -implicitDefEqProofs (disch := omega) [go_sem, -List.getD_eq_getElem?_getD, ite_yes]; refine ⟨wl_sl ht, .inl ⟨rfl, rfl⟩, .inl ⟨rfl, grN_flat _⟩, .inl ⟨rfl, grN_flat _⟩⟩); (· simp -dsimp -implicitDefEqProofs (disch := omega) [go_sem, -List.getD_eq_getElem?_getD, ite_yes, ht])) | (refine ⟨weakS_mk [some 0, some 1, some 3, some 2] rfl ?_ ?_⟩; (· simp -dsimp -implicitDefEqProofs (disch := omega) [go_sem, -List.getD_eq_getElem?_getD, ite_yes]; refine ⟨wl_sl ht, .inl ⟨rfl, rfl⟩, .inl ⟨rfl, grN_flat _⟩, .inl ⟨rfl, grN_flat _⟩⟩); (· simp -dsimp -implicitDefEqProofs (disch := omega) [go_sem, -List.getD_eq_getElem?_getD, ite_yes, ht])) | (refine ⟨weakS_mk [some 0, some 2, some 1, some 3] rfl ?_ ?_⟩; (· simp -dsimp -implicitDefEqProofs (disch := omega) [go_sem, -List.getD_eq_getElem?_getD, ite_yes]; refine ⟨wl_sl ht, .inl ⟨rfl, rfl⟩, .inl ⟨rfl, grN_flat _⟩, .inl ⟨rfl, grN_flat _⟩⟩); (· simp -dsimp -implicitDefEqProofs (disch := omega) [go_sem, -List.getD_eq_getElem?_getD, ite_yes, ht])) | (refine ⟨weakS_mk [some 0, some 2, some 3, some 1] rfl ?_ ?_⟩; (· simp -dsimp -implicitDefEqProofs (disch := omega) [go_sem, -List.getD_eq_getElem?_getD, ite_yes]; refine ⟨wl_sl ht, .inl ⟨rfl, rfl⟩, .inl ⟨rfl, grN_flat _⟩, .inl ⟨rfl, grN_flat _⟩⟩); (· simp -dsimp -implicitDefEqProofs (disch := omega) [go_sem, -List.getD_eq_getElem?_getD, ite_yes, ht])) | (refine ⟨weakS_mk [some 0, some 3, some 1, some 2] rfl ?_ ?_⟩; (· simp -dsimp -implicitDefEqProofs (disch := omega) [go_sem, -List.getD_eq_getElem?_getD, ite_yes]; refine ⟨wl_sl ht, .inl ⟨rfl, rfl⟩, .inl ⟨rfl, grN_flat _⟩, .inl ⟨rfl, grN_flat _⟩⟩); (· simp -dsimp -implicitDefEqProofs (disch := omega) [go_sem, -List.getD_eq_getElem?_getD, ite_yes, ht])) | (refine ⟨weakS_mk [some 0, some 3, some 2, some 1] rfl ?_ ?_⟩; (· simp -dsimp -implicitDefEqProofs (disch := omega) [go_sem, -List.getD_eq_getElem?_getD, ite_yes]; refine ⟨wl_sl ht, .inl ⟨rfl, rfl⟩, .inl ⟨rfl, grN_flat _⟩, .inl ⟨rfl, grN_flat _⟩⟩); (· simp -dsimp -implicitDefEqProofs (disch := omega) [go_sem, -List.getD_eq_getElem?_getD, ite_yes, ht]))
        · simp -dsimp -implicitDefEqProofs (disch := omega) [go_sem, -List.getD_eq_getElem?_getD, ite_yes, ht]
          first | refine AAt.of (by first | exact SubH.refl | exact SubH.app | exact SubH.both (by simp [subL])) ?_ | (refine ⟨?_, AAt.of (by first | exact SubH.refl | exact SubH.app | exact SubH.both (by simp [subL])) ?_⟩; · omega)
          refine AAny.one 3 0 (by kernel_rfl) (by kernel_rfl) (by kernel_rfl) ?_
          simp -dsimp -implicitDefEqProofs (disch := omega) [go_sem, -List.getD_eq_getElem?_getD, ite_yes, ht]
          first | refine AAt.of (by first | exact SubH.refl | exact SubH.app | exact SubH.both (by simp [subL])) ?_ | (refine ⟨?_, AAt.of (by first | exact SubH.refl | exact SubH.app | exact SubH.both (by simp [subL])) ?_⟩; · omega)
          refine AAny.takes (fuel := 0) (by kernel_rfl) (by kernel_rfl) [6, 7, 8] (by kernel_rfl) (by kernel_rfl) ?_
          simp -dsimp -implicitDefEqProofs (disch := omega) [go_sem, -List.getD_eq_getElem?_getD, ite_yes, ht]
          refine AAny.done (by kernel_rfl) ?_
          simp -dsimp -implicitDefEqProofs (disch := omega) [go_sem, -List.getD_eq_getElem?_getD, ite_yes, ht]
          first | (refine ⟨weakS_mk [some 0, some 1, some 2, some 3] rfl ?_ ?_⟩; (· simp -dsimp -implicitDefEqProofs (disch := omega) [go_sem, -List.getD_eq_getElem?_getD, ite_yes]; refine ⟨wl_sl ht, .inl ⟨rfl, rfl⟩, .inl ⟨rfl, grN_flat _⟩, .inl ⟨rfl, grN_flat _⟩⟩); (· simp -dsimp -implicitDefEqProofs (disch := omega) [go_sem, -List.getD_eq_getElem?_getD, ite_yes, ht])) | (refine ⟨weakS_mk [some 0, some 1, some 3, some 2] rfl ?_ ?_⟩; (· simp -dsimp -implicitDefEqProofs (disch := omega) [go_sem, -List.getD_eq_getElem?_getD, ite_yes]; refine ⟨wl_sl ht, .inl ⟨rfl, rfl⟩, .inl ⟨rfl, grN_flat _⟩, .inl ⟨rfl, grN_flat _⟩⟩); (· simp -dsimp -implicitDefEqProofs (disch := omega) [go_sem, -List.getD_eq_getElem?_getD, ite_yes, ht])) | (refine ⟨weakS_mk [some 0, some 2, some 1, some 3] rfl ?_ ?_⟩; (· simp -dsimp -implicitDefEqProofs (disch := omega) [go_sem, -List.getD_eq_getElem?_getD, ite_yes]; refine ⟨wl_sl ht, .inl ⟨rfl, rfl⟩, .inl ⟨rfl, grN_flat _⟩, .inl ⟨rfl, grN_flat _⟩⟩); (· simp -dsimp -implicitDefEqProofs (disch := omega) [go_sem, -List.getD_eq_getElem?_getD, ite_yes, ht])) | (refine ⟨weakS_mk [some 0, some 2, some 3, some 1] rfl ?_ ?_⟩; (· simp -dsimp -implicitDefEqProofs (disch := omega) [go_sem, -List.getD_eq_getElem?_getD, ite_yes]; refine ⟨wl_sl ht, .inl ⟨rfl, rfl⟩, .inl ⟨rfl, grN_flat _⟩, .inl ⟨rfl, grN_flat _⟩⟩); (· simp -dsimp -implicitDefEqProofs (disch := omega) [go_sem, -List.getD_eq_getElem?_getD, ite_yes, ht])) | (refine ⟨weakS_mk [some 0, some 3, some 1, some 2] rfl ?_ ?_⟩; (· simp -dsimp -implicitDefEqProofs (disch := omega) [go_sem, -List.getD_eq_getElem?_getD, ite_yes]; refine ⟨wl_sl ht, .inl ⟨rfl, rfl⟩, .inl ⟨rfl, grN_flat _⟩, .inl ⟨rfl, grN_flat _⟩⟩); (· simp -dsimp -implicitDefEqProofs (disch := omega) [go_sem, -List.getD_eq_getElem?_getD, ite_yes, ht])) | (refine ⟨weakS_mk [some 0, some 3, some 2, some 1] rfl ?_ ?_⟩; (· simp -dsimp -implicitDefEqProofs (disch := omega) [go_sem, -List.getD_eq_getElem?_getD, ite_yes]; refine ⟨wl_sl ht, .inl ⟨rfl, rfl⟩, .inl ⟨rfl, grN_flat _⟩, .inl ⟨rfl, grN_flat _⟩⟩); (· simp -dsimp -implicitDefEqProofs (disch := omega) [go_sem, -List.getD_eq_getElem?_getD, ite_yes, ht]))
    · simp -dsimp -implicitDefEqProofs (disch := omega) [go_sem, -List.getD_eq_getElem?_getD, ite_yes, ht]
      first | refine AAt.of (by first | exact SubH.refl | exact SubH.app | exact SubH.both (by simp [subL])) ?_ | (refine ⟨?_, AAt.of (by first | exact SubH.refl | exact SubH.app | exact SubH.both (by simp [subL])) ?_⟩; · omega)
      refine AAny.takes (fuel := 6) (by kernel_rfl) (by kernel_rfl) [4] (by kernel_rfl) (by kernel_rfl) ?_
      simp -dsimp -implicitDefEqProofs (disch := omega) [go_sem, -List.getD_eq_getElem?_getD, ite_yes, ht]
      refine AAny.three 5 0 2 5 (by kernel_rfl) (by kernel_rfl) (by kernel_rfl) ?_ ?_ ?_
      · simp -dsimp -implicitDefEqProofs (disch := omega) [go_sem, -List.getD_eq_getElem?_getD, ite_yes, ht]
        first | refine AAt.of (by first | exact SubH.refl | exact SubH.app | exact SubH.both (by simp [subL])) ?_ | (refine ⟨?_, AAt.of (by first | exact SubH.refl | exact SubH.app | exact SubH.both (by simp [subL])) ?_⟩; · omega)
        refine AAny.takes (fuel := 4) (by kernel_rfl) (by kernel_rfl) [6] (by kernel_rfl) (by kernel_rfl) ?_
        simp -dsimp -implicitDefEqProofs (disch := omega) [go_sem, -List.getD_eq_getElem?_getD, ite_yes, ht]
        refine AAny.two 3 2 5 (by kernel_rfl) (by kernel_rfl) (by kernel_rfl) ?_ ?_
        · simp -dsimp -implicitDefEqProofs (disch := omega) [go_sem, -List.getD_eq_getElem?_getD, ite_yes, ht]
          first | refine AAt.of (by first | exact SubH.refl | exact SubH.app | exact SubH.both (by simp [subL])) ?_ | (refine ⟨?_, AAt.of (by first | exact SubH.refl | exact SubH.app | exact SubH.both (by simp [subL])) ?_⟩; · omega)
          refine AAny.takes (fuel := 2) (by kernel_rfl) (by kernel_rfl) [7] (by kernel_rfl) (by kernel_rfl) ?_
          simp -dsimp -implicitDefEqProofs (disch := omega) [go_sem, -List.getD_eq_getElem?_getD, ite_yes, ht]
          refine AAny.one 1 5 (by kernel_rfl) (by kernel_rfl) (by kernel_rfl) ?_
          simp -dsimp -implicitDefEqProofs (disch := omega) [go_sem, -List.getD_eq_getElem?_getD, ite_yes, ht]
          first | refine AAt.of (by first | exact SubH.refl | exact SubH.app | exact SubH.both (by simp [subL])) ?_ | (refine ⟨?_, AAt.of (by first | exact SubH.refl | exact SubH.app | exact SubH.both (by simp [subL])) ?_⟩; · omega)
          refine AAny.takes (fuel := 0) (by kernel_rfl) (by kernel_rfl) [8] (by kernel_rfl) (by kernel_rfl) ?_
          simp -dsimp -implicitDefEqProofs (disch := omega) [go_sem, -List.getD_eq_getElem?_getD, ite_yes, ht]
          refine AAny.done (by kernel_rfl) ?_
          simp -dsimp -implicitDefEqProofs (disch := omega) [go_sem, -List.getD_eq_getElem?_getD, ite_yes, ht]
          first | (refine ⟨weakS_mk [some 0, some 1, some 2, some 3] rfl ?_ ?_⟩; (· simp -dsimp -implicitDefEqProofs (disch := omega) [go_sem, -List.getD_eq_getElem?_getD, ite_yes]; refine ⟨wl_sl ht, .inl ⟨rfl, rfl⟩, .inl ⟨rfl, grN_flat _⟩, .inl ⟨rfl, grN_flat _⟩⟩); (· simp -dsimp -implicitDefEqProofs (disch := omega) [go_sem, -List.getD_eq_getElem?_getD, ite_yes, ht])) | (refine ⟨weakS_mk [some 0, some 1, some 3, some 2] rfl ?_ ?_⟩; (· simp -dsimp -implicitDefEqProofs (disch := omega) [go_sem, -List.getD_eq_getElem?_getD, ite_yes]; refine ⟨wl_sl ht, .inl ⟨rfl, rfl⟩, .inl ⟨rfl, grN_flat _⟩, .inl ⟨rfl, grN_flat _⟩⟩); (· simp -dsimp -implicitDefEqProofs (disch := omega) [go_sem, -List.getD_eq_getElem?_getD, ite_yes, ht])) | (refine ⟨weakS_mk [some 0, some 2, some 1, some 3] rfl ?_ ?_⟩; (· simp -dsimp -implicitDefEqProofs (disch := omega) [go_sem, -List.getD_eq_getElem?_getD, ite_yes]; refine ⟨wl_sl ht, .inl ⟨rfl, rfl⟩, .inl ⟨rfl, grN_flat _⟩, .inl ⟨rfl, grN_flat _⟩⟩); (· simp -dsimp -implicitDefEqProofs (disch := omega) [go_sem, -List.getD_eq_getElem?_getD, ite_yes, ht])) | (refine ⟨weakS_mk [some 0, some 2, some 3, some 1] rfl ?_ ?_⟩; (· simp -dsimp -implicitDefEqProofs (disch := omega) [go_sem, -List.getD_eq_getElem?_getD, ite_yes]; refine ⟨wl_sl ht, .inl ⟨rfl, rfl⟩, .inl ⟨rfl, grN_flat _⟩, .inl ⟨rfl, grN_flat _⟩⟩); (· simp -dsimp -implicitDefEqProofs (disch := omega) [go_sem, -List.getD_eq_getElem?_getD, ite_yes, ht])) | (refine ⟨weakS_mk [some 0, some 3, some 1, some 2] rfl ?_ ?_⟩; (· simp -dsimp -implicitDefEqProofs (disch := omega) [go_sem, -List.getD_eq_getElem?_getD, ite_yes]; refine ⟨wl_sl ht, .inl ⟨rfl, rfl⟩, .inl ⟨rfl, grN_flat _⟩, .inl ⟨rfl, grN_flat _⟩⟩); (· simp -dsimp -implicitDefEqProofs (disch := omega) [go_sem, -List.getD_eq_getElem?_getD, ite_yes, ht])) | (refine ⟨weakS_mk [some 0, some 3, some 2, some 1] rfl ?_ ?_⟩; (· simp -dsimp -implicitDefEqProofs (disch := omega) [go_sem, -List.getD_eq_getElem?_getD, ite_yes]; refine ⟨wl_sl ht, .inl ⟨rfl, rfl⟩, .inl ⟨rfl, grN_flat _⟩, .inl ⟨rfl, grN_flat _⟩⟩); (· simp -dsimp -implicitDefEqProofs (disch := omega) [go_sem, -List.getD_eq_getElem?_getD, ite_yes, ht]))
        · simp -dsimp -implicitDefEqProofs (disch := omega) [go_sem, -List.getD_eq_getElem?_getD, ite_yes, ht]
          first | refine AAt.of (by first | exact SubH.refl | exact SubH.app | exact SubH.both (by simp [subL])) ?_ | (refine ⟨?_, AAt.of (by first | exact SubH.refl | exact SubH.app | exact SubH.both (by simp [subL])) ?_⟩; · omega)
          refine AAny.one 2 2 (by kernel_rfl) (by kernel_rfl) (by kernel_rfl) ?_
          simp -dsimp -implicitDefEqProofs (disch := omega) [go_sem, -List.getD_eq_getElem?_getD, ite_yes, ht]
          first | refine AAt.of (by first | exact SubH.refl | exact SubH.app | exact SubH.both (by simp [subL])) ?_ | (refine ⟨?_, AAt.of (by first | exact SubH.refl | exact SubH.app | exact SubH.both (by simp [subL])) ?_⟩; · omega)
          refine AAny.takes (fuel := 0) (by kernel_rfl) (by kernel_rfl) [7, 8] (by kernel_rfl) (by kernel_rfl) ?_
          simp -dsimp -implicitDefEqProofs (disch := omega) [go_sem, -List.getD_eq_getElem?_getD, ite_yes, ht]
          refine AAny.done (by kernel_rfl) ?_
          simp -dsimp -implicitDefEqProofs (disch := omega) [go_sem, -List.getD_eq_getElem?_getD, ite_yes, ht]
          first | (refine ⟨weakS_mk [some 0, some 1, some 2, some 3] rfl ?_ ?_⟩; (· simp -dsimp -implicitDefEqProofs (disch := omega) [go_sem, -List.getD_eq_getElem?_getD, ite_yes]; refine ⟨wl_sl ht, .inl ⟨rfl, rfl⟩, .inl ⟨rfl, grN_flat _⟩, .inl ⟨rfl, grN_flat _⟩⟩); (· simp -dsimp -implicitDefEqProofs (disch := omega) [go_sem, -List.getD_eq_getElem?_getD, ite_yes, ht])) | (refine ⟨weakS_mk [some 0, some 1, some 3, some 2] rfl ?_ ?_⟩; (· simp -dsimp -implicitDefEqProofs (disch := omega) [go_sem, -List.getD_eq_getElem?_getD, ite_yes]; refine ⟨wl_sl ht, .inl ⟨rfl, rfl⟩, .inl ⟨rfl, grN_flat _⟩, .inl ⟨rfl, grN_flat _⟩⟩); (· simp -dsimp -implicitDefEqProofs (disch := omega) [go_sem, -List.getD_eq_getElem?_getD, ite_yes, ht])) | (refine ⟨weakS_mk [some 0, some 2, some 1, some 3] rfl ?_ ?_⟩; (· simp -dsimp -implicitDefEqProofs (disch := omega) [go_sem, -List.getD_eq_getElem?_getD, ite_yes]; refine ⟨wl_sl ht, .inl ⟨rfl, rfl⟩, .inl ⟨rfl, grN_flat _⟩, .inl ⟨rfl, grN_flat _⟩⟩); (· simp -dsimp -implicitDefEqProofs (disch := omega) [go_sem, -List.getD_eq_getElem?_getD, ite_yes, ht])) | (refine ⟨weakS_mk [some 0, some 2, some 3, some 1] rfl ?_ ?_⟩; (· simp -dsimp -implicitDefEqProofs (disch := omega) [go_sem, -List.getD_eq_getElem?_getD, ite_yes]; refine ⟨wl_sl ht, .inl ⟨rfl, rfl⟩, .inl ⟨rfl, grN_flat _⟩, .inl ⟨rfl, grN_flat _⟩⟩); (· simp -dsimp -implicitDefEqProofs (disch := omega) [go_sem, -List.getD_eq_getElem?_getD, ite_yes, ht])) | (refine ⟨weakS_mk [some 0, some 3, some 1, some 2] rfl ?_ ?_⟩; (· simp -dsimp -implicitDefEqProofs (disch := omega) [go_sem, -List.getD_eq_getElem?_getD, ite_yes]; refine ⟨wl_sl ht, .inl ⟨rfl, rfl⟩, .inl ⟨rfl, grN_flat _⟩, .inl ⟨rfl, grN_flat _⟩⟩); (· simp -dsimp -implicitDefEqProofs (disch := omega) [go_sem, -List.getD_eq_getElem?_getD, ite_yes, ht])) | (refine ⟨weakS_mk [some 0, some 3, some 2, some 1] rfl ?_ ?_⟩; (· simp -dsimp -implicitDefEqProofs (disch := omega) [go_sem, -List.getD_eq_getElem?_getD, ite_yes]; refine ⟨wl_sl ht, .inl ⟨rfl, rfl⟩, .inl ⟨rfl, grN_flat _⟩, .inl ⟨rfl, grN_flat _⟩⟩); (· simp -dsimp -implicitDefEqProofs (disch := omega) [go_sem, -List.getD_eq_getElem?_getD, ite_yes, ht]))
      · simp -dsimp -implicitDefEqProofs (disch := omega) [go_sem, -List.getD_eq_getElem?_getD, ite_yes, ht]
        first | refine AAt.of (by first | exact SubH.refl | exact SubH.app | exact SubH.both (by simp [subL])) ?_ | (refine ⟨?_, AAt.of (by first | exact SubH.refl | exact SubH.app | exact SubH.both (by simp [subL])) ?_⟩; · omega)
        refine AAny.two 4 0 5 (by kernel_rfl) (by kernel_rfl) (by kernel_rfl) ?_ ?_
        · simp -dsimp -implicitDefEqProofs (disch := omega) [go_sem, -List.getD_eq_getElem?_getD, ite_yes, ht]
          first | refine AAt.of (by first | exact SubH.refl | exact SubH.app | exact SubH.both (by simp [subL])) ?_ | (refine ⟨?_, AAt.of (by first | exact SubH.refl | exact SubH.app | exact SubH.both (by simp [subL])) ?_⟩; · omega)
          refine AAny.takes (fuel := 2) (by kernel_rfl) (by kernel_rfl) [6, 7] (by kernel_rfl) (by kernel_rfl) ?_
          simp -dsimp -implicitDefEqProofs (disch := omega) [go_sem, -List.getD_eq_getElem?_getD, ite_yes, ht]
          refine AAny.one 1 5 (by kernel_rfl) (by kernel_rfl) (by kernel_rfl) ?_
          simp -dsimp -implicitDefEqProofs (disch := omega) [go_sem, -List.getD_eq_getElem?_getD, ite_yes, ht]
          first | refine AAt.of (by first | exact SubH.refl | exact SubH.app | exact SubH.both (by simp [subL])) ?_ | (refine ⟨?_, AAt.of (by first | exact SubH.refl | exact SubH.app | exact SubH.both (by simp [subL])) ?_⟩; · omega)
          refine AAny.takes (fuel := 0) (by kernel_rfl) (by kernel_rfl) [8] (by kernel_rfl) (by kernel_rfl) ?_
          simp -dsimp -implicitDefEqProofs (disch := omega) [go_sem, -List.getD_eq_getElem?_getD, ite_yes, ht]
          refine AAny.done (by kernel_rfl) ?_
          simp -dsimp -implicitDefEqProofs (disch := omega) [go_sem, -List.getD_eq_getElem?_getD, ite_yes, ht]
          first | (refine ⟨weakS_mk [some 0, some 1, some 2, some 3] rfl ?_ ?_⟩; (· simp -dsimp -implicitDefEqProofs (disch := omega) [go_sem, -List.getD_eq_getElem?_getD, ite_yes]; refine ⟨wl_sl ht, .inl ⟨rfl, rfl⟩, .inl ⟨rfl, grN_flat _⟩, .inl ⟨rfl, grN_flat _⟩⟩); (· simp -dsimp -implicitDefEqProofs (disch := omega) [go_sem, -List.getD_eq_getElem?_getD, ite_yes, ht])) | (refine ⟨weakS_mk [some 0, some 1, some 3, some 2] rfl ?_ ?_⟩; (· simp -dsimp -implicitDefEqProofs (disch := omega) [go_sem, -List.getD_eq_getElem?_getD, ite_yes]; refine ⟨wl_sl ht, .inl ⟨rfl, rfl⟩, .inl ⟨rfl, grN_flat _⟩, .inl ⟨rfl, grN_flat _⟩⟩); (· simp -dsimp -implicitDefEqProofs (disch := omega) [go_sem, -List.getD_eq_getElem?_getD, ite_yes, ht])) | (refine ⟨weakS_mk [some 0, some 2, some 1, some 3] rfl ?_ ?_⟩; (· simp -dsimp -implicitDefEqProofs (disch := omega) [go_sem, -List.getD_eq_getElem?_getD, ite_yes]; refine ⟨wl_sl ht, .inl ⟨rfl, rfl⟩, .inl ⟨rfl, grN_flat _⟩, .inl ⟨rfl, grN_flat _⟩⟩); (· simp -dsimp -implicitDefEqProofs (disch := omega) [go_sem, -List.getD_eq_getElem?_getD, ite_yes, ht])) | (refine ⟨weakS_mk [some 0, some 2, some 3, some 1] rfl ?_ ?_⟩; (· simp -dsimp -implicitDefEqProofs (disch := omega) [go_sem, -List.getD_eq_getElem?_getD, ite_yes]; refine ⟨wl_sl ht, .inl ⟨rfl, rfl⟩, .inl ⟨rfl, grN_flat _⟩, .inl ⟨rfl, grN_flat _⟩⟩); (· simp -dsimp -implicitDefEqProofs (disch := omega) [go_sem, -List.getD_eq_getElem?_getD, ite_yes, ht])) | (refine ⟨weakS_mk [some 0, some 3, some 1, some 2] rfl ?_ ?_⟩; (· simp -dsimp -implicitDefEqProofs (disch := omega) [go_sem, -List.getD_eq_getElem?_getD, ite_yes]; refine ⟨wl_sl ht, .inl ⟨rfl, rfl⟩, .inl ⟨rfl, grN_flat _⟩, .inl ⟨rfl, grN_flat _⟩⟩); (· simp -dsimp -implicitDefEqProofs (disch := omega) [go_sem, -List.getD_eq_getElem?_getD, ite_yes, ht])) | (refine ⟨weakS_mk [some 0, some 3, some 2, some 1] rfl ?_ ?_⟩; (· simp -dsimp -implicitDefEqProofs (disch := omega) [go_sem, -List.getD_eq_getElem?_getD, ite_yes]; refine ⟨wl_sl ht, .inl ⟨rfl, rfl⟩, .inl ⟨rfl, grN_flat _⟩, .inl ⟨rfl, grN_flat _⟩⟩); (· simp -dsimp -implicitDefEqProofs (disch := omega) [go_sem, -List.getD_eq_getElem?_getD, ite_yes, ht]))
        · simp -dsimp -implicitDefEqProofs (disch := omega) [go_sem, -List.getD_eq_getElem?_getD, ite_yes, ht]
          first | refine AAt.of (by first | exact SubH.refl | exact SubH.app | exact SubH.both (by simp [subL])) ?_ | (refine ⟨?_, AAt.of (by first | exact SubH.refl | exact SubH.app | exact SubH.both (by simp [subL])) ?_⟩; · omega)
          refine AAny.one 3 0 (by kernel_rfl) (by kernel_rfl) (by kernel_rfl) ?_
          simp -dsimp -implicitDefEqProofs (disch := omega) [go_sem, -List.getD_eq_getElem?_getD, ite_yes, ht]
          first | refine AAt.of (by first | exact SubH.refl | exact SubH.app | exact SubH.both (by simp [subL])) ?_ | (refine ⟨?_, AAt.of (by first | exact SubH.refl | exact SubH.app | exact SubH.both (by simp [subL])) ?_⟩; · omega)
          refine AAny.takes (fuel := 0) (by kernel_rfl) (by kernel_rfl) [6, 7, 8] (by kernel_rfl) (by kernel_rfl) ?_
          simp -dsimp -implicitDefEqProofs (disch := omega) [go_sem, -List.getD_eq_getElem?_getD, ite_yes, ht]
          refine AAny.done (by kernel_rfl) ?_
          simp -dsimp -implicitDefEqProofs (disch := omega) [go_sem, -List.getD_eq_getElem?_getD, ite_yes, ht]
          first | (refine ⟨weakS_mk [some 0, some 1, some 2, some 3] rfl ?_ ?_⟩; (· simp -dsimp -implicitDefEqProofs (disch := omega) [go_sem, -List.getD_eq_getElem?_getD, ite_yes]; refine ⟨wl_sl ht, .inl ⟨rfl, rfl⟩, .inl ⟨rfl, grN_flat _⟩, .inl ⟨rfl, grN_flat _⟩⟩); (· simp -dsimp -implicitDefEqProofs (disch := omega) [go_sem, -List.getD_eq_getElem?_getD, ite_yes, ht])) | (refine ⟨weakS_mk [some 0, some 1, some 3, some 2] rfl ?_ ?_⟩; (· simp -dsimp -implicitDefEqProofs (disch := omega) [go_sem, -List.getD_eq_getElem?_getD, ite_yes]; refine ⟨wl_sl ht, .inl ⟨rfl, rfl⟩, .inl ⟨rfl, grN_flat _⟩, .inl ⟨rfl, grN_flat _⟩⟩); (· simp -dsimp -implicitDefEqProofs (disch := omega) [go_sem, -List.getD_eq_getElem?_getD, ite_yes, ht])) | (refine ⟨weakS_mk [some 0, some 2, some 1, some 3] rfl ?_ ?_⟩; (· simp -dsimp -implicitDefEqProofs (disch := omega) [go_sem, -List.getD_eq_getElem?_getD, ite_yes]; refine ⟨wl_sl ht, .inl ⟨rfl, rfl⟩, .inl ⟨rfl, grN_flat _⟩, .inl ⟨rfl, grN_flat _⟩⟩); (· simp -dsimp -implicitDefEqProofs (disch := omega) [go_sem, -List.getD_eq_getElem?_getD, ite_yes, ht])) | (refine ⟨weakS_mk [some 0, some 2, some 3, some 1] rfl ?_ ?_⟩; (· simp -dsimp -implicitDefEqProofs (disch := omega) [go_sem, -List.getD_eq_getElem?_getD, ite_yes]; refine ⟨wl_sl ht, .inl ⟨rfl, rfl⟩, .inl ⟨rfl, grN_flat _⟩, .inl ⟨rfl, grN_flat _⟩⟩); (· simp -dsimp -implicitDefEqProofs (disch := omega) [go_sem, -List.getD_eq_getElem?_getD, ite_yes, ht])) | (refine ⟨weakS_mk [some 0, some 3, some 1, some 2] rfl ?_ ?_⟩; (· simp -dsimp -implicitDefEqProofs (disch := omega) [go_sem, -List.getD_eq_getElem?_getD, ite_yes]; refine ⟨wl_sl ht, .inl ⟨rfl, rfl⟩, .inl ⟨rfl, grN_flat _⟩, .inl ⟨rfl, grN_flat _⟩⟩); (· simp -dsimp -implicitDefEqProofs (disch := omega) [go_sem, -List.getD_eq_getElem?_getD, ite_yes, ht])) | (refine ⟨weakS_mk [some 0, some 3, some 2, some 1] rfl ?_ ?_⟩; (· simp -dsimp -implicitDefEqProofs (disch := omega) [go_sem, -List.getD_eq_getElem?_getD, ite_yes]; refine ⟨wl_sl ht, .inl ⟨rfl, rfl⟩, .inl ⟨rfl, grN_flat _⟩, .inl ⟨rfl, grN_flat _⟩⟩); (· simp -dsimp -implicitDefEqProofs (disch := omega) [go_sem, -List.getD_eq_getElem?_getD, ite_yes, ht]))
      · simp -dsimp -implicitDefEqProofs (disch := omega) [go_sem, -List.getD_eq_getElem?_getD, ite_yes, ht]
        first | refine AAt.of (by first | exact SubH.refl | exact SubH.app | exact SubH.both (by simp [subL])) ?_ | (refine ⟨?_, AAt.of (by first | exact SubH.refl | exact SubH.app | exact SubH.both (by simp [subL])) ?_⟩; · omega)
        refine AAny.two 4 0 2 (by kernel_rfl) (by kernel_rfl) (by kernel_rfl) ?_ ?_
        · simp -dsimp -implicitDefEqProofs (disch := omega) [go_sem, -List.getD_eq_getElem?_getD, ite_yes, ht]
          first | refine AAt.of (by first | exact SubH.refl | exact SubH.app | exact SubH.both (by simp [subL])) ?_ | (refine ⟨?_, AAt.of (by first | exact SubH.refl | exact SubH.app | exact SubH.both (by simp [subL])) ?_⟩; · omega)
          refine AAny.takes (fuel := 3) (by kernel_rfl) (by kernel_rfl) [6] (by kernel_rfl) (by kernel_rfl) ?_
          simp -dsimp -implicitDefEqProofs (disch := omega) [go_sem, -List.getD_eq_getElem?_getD, ite_yes, ht]
          refine AAny.one 2 2 (by kernel_rfl) (by kernel_rfl) (by kernel_rfl) ?_
          simp -dsimp -implicitDefEqProofs (disch := omega) [go_sem, -List.getD_eq_getElem?_getD, ite_yes, ht]
          first | refine AAt.of (by first | exact SubH.refl | exact SubH.app | exact SubH.both (by simp [subL])) ?_ | (refine ⟨?_, AAt.of (by first | exact SubH.refl | exact SubH.app | exact SubH.both (by simp [subL])) ?_⟩; · omega)
          refine AAny.takes (fuel := 0) (by kernel_rfl) (by kernel_rfl) [7, 8] (by kernel_rfl) (by kernel_rfl) ?_
          simp -dsimp -implicitDefEqProofs (disch := omega) [go_sem, -List.getD_eq_getElem?_getD, ite_yes, ht]
          refine AAny.done (by kernel_rfl) ?_
          simp -dsimp -implicitDefEqProofs (disch := omega) [go_sem, -List.getD_eq_getElem?_getD, ite_yes, ht]
          first | (refine ⟨weakS_mk [some 0, some 1, some 2, some 3] rfl ?_ ?_⟩; (· simp -dsimp -implicitDefEqProofs (disch := omega) [go_sem, -List.getD_eq_getElem?_getD, ite_yes]; refine ⟨wl_sl ht, .inl ⟨rfl, rfl⟩, .inl ⟨rfl, grN_flat _⟩, .inl ⟨rfl, grN_flat _⟩⟩); (· simp -dsimp -implicitDefEqProofs (disch := omega) [go_sem, -List.getD_eq_getElem?_getD, ite_yes, ht])) | (refine ⟨weakS_mk [some 0, some 1, some 3, some 2] rfl ?_ ?_⟩; (· simp -dsimp -implicitDefEqProofs (disch := omega) [go_sem, -List.getD_eq_getElem?_getD, ite_yes]; refine ⟨wl_sl ht, .inl ⟨rfl, rfl⟩, .inl ⟨rfl, grN_flat _⟩, .inl ⟨rfl, grN_flat _⟩⟩); (· simp -dsimp -implicitDefEqProofs (disch := omega) [go_sem, -List.getD_eq_getElem?_getD, ite_yes, ht])) | (refine ⟨weakS_mk [some 0, some 2, some 1, some 3] rfl ?_ ?_⟩; (· simp -dsimp -implicitDefEqProofs (disch := omega) [go_sem, -List.getD_eq_getElem?_getD, ite_yes]; refine ⟨wl_sl ht, .inl ⟨rfl, rfl⟩, .inl ⟨rfl, grN_flat _⟩, .inl ⟨rfl, grN_flat _⟩⟩); (· simp -dsimp -implicitDefEqProofs (disch := omega) [go_sem, -List.getD_eq_getElem?_getD, ite_yes, ht])) | (refine ⟨weakS_mk [some 0, some 2, some 3, some 1] rfl ?_ ?_⟩; (· simp -dsimp -implicitDefEqProofs (disch := omega) [go_sem, -List.getD_eq_getElem?_getD, ite_yes]; refine ⟨wl_sl ht, .inl ⟨rfl, rfl⟩, .inl ⟨rfl, grN_flat _⟩, .inl ⟨rfl, grN_flat _⟩⟩); (· simp -dsimp -implicitDefEqProofs (disch := omega) [go_sem, -List.getD_eq_getElem?_getD, ite_yes, ht])) | (refine ⟨weakS_mk [some 0, some 3, some 1, some 2] rfl ?_ ?_⟩; (· simp -dsimp -implicitDefEqProofs (disch := omega) [go_sem, -List.getD_eq_getElem?_getD, ite_yes]; refine ⟨wl_sl ht, .inl ⟨rfl, rfl⟩, .inl ⟨rfl, grN_flat _⟩, .inl ⟨rfl, grN_flat _⟩⟩); (· simp -dsimp -implicitDefEqProofs (disch := omega) [go_sem, -List.getD_eq_getElem?_getD, ite_yes, ht])) | (refine ⟨weakS_mk [some 0, some 3, some 2, some 1] rfl ?_ ?_⟩; (· simp -dsimp -implicitDefEqProofs (disch := omega) [go_sem, -List.getD_eq_getElem?_getD, ite_yes]; refine ⟨wl_sl ht, .inl ⟨rfl, rfl⟩, .inl ⟨rfl, grN_flat _⟩, .inl ⟨rfl, grN_flat _⟩⟩); (· simp -dsimp -implicitDefEqProofs (disch := omega) [go_sem, -List.getD_eq_getElem?_getD, ite_yes, ht]))
        · simp -dsimp -implicitDefEqProofs (disch := omega) [go_sem, -List.getD_eq_getElem?_getD, ite_yes, ht]
          first | refine AAt.of (by first | exact SubH.refl | exact SubH.app | exact SubH.both (by simp [subL])) ?_ | (refine ⟨?_, AAt.of (by first | exact SubH.refl | exact SubH.app | exact SubH.both (by simp [subL])) ?_⟩; · omega)
          refine AAny.one 3 0 (by kernel_rfl) (by kernel_rfl) (by kernel_rfl) ?_
          simp -dsimp -implicitDefEqProofs (disch := omega) [go_sem, -List.getD_eq_getElem?_getD, ite_yes, ht]
          first | refine AAt.of (by first | exact SubH.refl | exact SubH.app | exact SubH.both (by simp [subL])) ?_ | (refine ⟨?_, AAt.of (by first | exact SubH.refl | exact SubH.app | exact SubH.both (by simp [subL])) ?_⟩; · omega)
          refine AAny.takes (fuel := 0) (by kernel_rfl) (by kernel_rfl) [6, 7, 8] (by kernel_rfl) (by kernel_rfl) ?_
          simp -dsimp -implicitDefEqProofs (disch := omega) [go_sem, -List.getD_eq_getElem?_getD, ite_yes, ht]
          refine AAny.done (by kernel_rfl) ?_
          simp -dsimp -implicitDefEqProofs (disch := omega) [go_sem, -List.getD_eq_getElem?_getD, ite_yes, ht]
          first | (refine ⟨weakS_mk [some 0, some 1, some 2, some 3] rfl ?_ ?_⟩; (· simp -dsimp -implicitDefEqProofs (disch := omega) [go_sem, -List.getD_eq_getElem?_getD, ite_yes]; refine ⟨wl_sl ht, .inl ⟨rfl, rfl⟩, .inl ⟨rfl, grN_flat _⟩, .inl ⟨rfl, grN_flat _⟩⟩); (· simp -dsimp -implicitDefEqProofs (disch := omega) [go_sem, -List.getD_eq_getElem?_getD, ite_yes, ht])) | (refine ⟨weakS_mk [some 0, some 1, some 3, some 2] rfl ?_ ?_⟩; (· simp -dsimp -implicitDefEqProofs (disch := omega) [go_sem, -List.getD_eq_getElem?_getD, ite_yes]; refine ⟨wl_sl ht, .inl ⟨rfl, rfl⟩, .inl ⟨rfl, grN_flat _⟩, .inl ⟨rfl, grN_flat _⟩⟩); (· simp -dsimp -implicitDefEqProofs (disch := omega) [go_sem, -List.getD_eq_getElem?_getD, ite_yes, ht])) | (refine ⟨weakS_mk [some 0, some 2, some 1, some 3] rfl ?_ ?_⟩; (· simp -dsimp -implicitDefEqProofs (disch := omega) [go_sem, -List.getD_eq_getElem?_getD, ite_yes]; refine ⟨wl_sl ht, .inl ⟨rfl, rfl⟩, .inl ⟨rfl, grN_flat _⟩, .inl ⟨rfl, grN_flat _⟩⟩); (· simp -dsimp -implicitDefEqProofs (disch := omega) [go_sem, -List.getD_eq_getElem?_getD, ite_yes, ht])) | (refine ⟨weakS_mk [some 0, some 2, some 3, some 1] rfl ?_ ?_⟩; (· simp -dsimp -implicitDefEqProofs (disch := omega) [go_sem, -List.getD_eq_getElem?_getD, ite_yes]; refine ⟨wl_sl ht, .inl ⟨rfl, rfl⟩, .inl ⟨rfl, grN_flat _⟩, .inl ⟨rfl, grN_flat _⟩⟩); (· simp -dsimp -implicitDefEqProofs (disch := omega) [go_sem, -List.getD_eq_getElem?_getD, ite_yes, ht])) | (refine ⟨weakS_mk [some 0, some 3, some 1, some 2] rfl ?_ ?_⟩; (· simp -dsimp -implicitDefEqProofs (disch := omega) [go_sem, -List.getD_eq_getElem?_getD, ite_yes]; refine ⟨wl_sl ht, .inl ⟨rfl, rfl⟩, .inl ⟨rfl, grN_flat _⟩, .inl ⟨rfl, grN_flat _⟩⟩); (· simp -dsimp -implicitDefEqProofs (disch := omega) [go_sem, -List.getD_eq_getElem?_getD, ite_yes, ht])) | (refine ⟨weakS_mk [some 0, some 3, some 2, some 1] rfl ?_ ?_⟩; (· simp -dsimp -implicitDefEqProofs (disch := omega) [go_sem, -List.getD_eq_getElem?_getD, ite_yes]; refine ⟨wl_sl ht, .inl ⟨rfl, rfl⟩, .inl ⟨rfl, grN_flat _⟩, .inl ⟨rfl, grN_flat _⟩⟩); (· simp -dsimp -implicitDefEqProofs (disch := omega) [go_sem, -List.getD_eq_getElem?_getD, ite_yes, ht]))
  simp -dsimp -implicitDefEqProofs (disch := omega) [go_sem, -List.getD_eq_getElem?_getD, ite_yes]
  refine ALoop.intro (ι := Nat) (fun k => k ≤ l.length) (fun k => [(2, .pointer (some ⟨H.length, 0, none⟩)), (6, .slice (some ⟨H.length + 1, 0, none⟩) k 0), (7, .slice (some ⟨H.length + 2, 0, none⟩) crews.toNat crews.toNat), (8, .slice (some ⟨H.length + 3, 0, none⟩) l.length l.length), (24, .int .i64 l.length), (25, .int .i64 k)])
    (fun k => H ++ [some ⟨[.slice (some ⟨t, 0, none⟩) l.length c], true, 24, 1⟩, some ⟨(upI k).flatMap nmE, true, 3, 1⟩, some ⟨List.replicate crews.toNat (.int .i64 0), true, 3, 1⟩, some ⟨List.replicate l.length (.int .i64 0), true, 3, 1⟩]) (fun k => l.length - k) 0 (by omega) ?_ ?_
  · refine weakS_mk [some 0, some 1, some 2, some 3] rfl ?_ (by simp -dsimp -implicitDefEqProofs (disch := omega) [go_sem, -List.getD_eq_getElem?_getD, ite_yes, ht])
    simp -dsimp -implicitDefEqProofs (disch := omega) [go_sem, -List.getD_eq_getElem?_getD, ite_yes]
    refine ⟨wl_sl ht, .inl ⟨rfl, rfl⟩, .inl ⟨rfl, grN_flat _⟩, .inl ⟨rfl, grN_flat _⟩⟩
  intro k hk
  have hul := upI_length k
  have hfl : ((upI k).flatMap nmE).length = k := by rw [nmE_length, hul]; omega
  by_cases hlt : k < l.length
  · have e := upI_succ k
    simp -dsimp -implicitDefEqProofs (disch := omega) [go_sem, -List.getD_eq_getElem?_getD, ite_yes, hlt, hfl]
    refine ⟨by omega, LoopEnd.of (k + 1) (by omega) (by omega) (weakS_mk [some 0, some 5, some 2, some 3] rfl ?_ (by simp -dsimp -implicitDefEqProofs (disch := omega) [go_sem, -List.getD_eq_getElem?_getD, ite_yes, ht]))⟩
    simp -dsimp -implicitDefEqProofs (disch := omega) [go_sem, -List.getD_eq_getElem?_getD, ite_yes]
    refine ⟨wl_sl ht, .inl ⟨by rw [e, List.flatMap_append]; rfl, by rw [show List.flatMap nmE (upI k) ++ [Value.int IntKind.i64 ↑k] = List.flatMap nmE (upI (k + 1)) by rw [e, List.flatMap_append]; rfl]; exact nmE_flat _⟩, .inl ⟨rfl, grN_flat _⟩, .inl ⟨rfl, grN_flat _⟩⟩
  obtain rfl : k = l.length := by omega
  rw [upI_out]
  have hog := ordG_length l l.length
  simp -dsimp -implicitDefEqProofs (disch := omega) [go_sem, -List.getD_eq_getElem?_getD, ite_yes]
  refine ACall.of (sortStable_A l hl7 0 c 3 _ (H.length + 1) H.length t ((Heap.get_len_add _ _ 1).trans rfl) hS.app (by simp) (by simp -dsimp -implicitDefEqProofs (disch := omega) [go_sem, -List.getD_eq_getElem?_getD, ite_yes]) (by omega) (by omega)) ?_
  rw [rep_zero, rep_zero]
  simp -dsimp -implicitDefEqProofs (disch := omega) [go_sem, -List.getD_eq_getElem?_getD, ite_yes]
  refine ALoop.intro (ι := Nat) (fun j => j ≤ l.length) (fun j => [(2, .pointer (some ⟨H.length, 0, none⟩)), (7, .slice (some ⟨H.length + 2, 0, none⟩) crews.toNat crews.toNat), (8, .slice (some ⟨H.length + 3, 0, none⟩) l.length l.length), (36, .slice (some ⟨H.length + 1, 0, none⟩) l.length 0), (37, .int .i64 l.length), (38, .int .i64 j)])
    (fun j => H ++ [some ⟨[.slice (some ⟨t, 0, none⟩) l.length c], true, 24, 1⟩, some ⟨(ordG l l.length).flatMap nmE, true, 3, 1⟩, some ⟨(grTo l crews j).2.flatMap nmE, true, 3, 1⟩, some ⟨(grTo l crews j).1.flatMap nmE, true, 3, 1⟩]) (fun j => l.length - j) 0 (by omega) ?_ ?_
  · refine weakS_mk [some 0, some 1, some 2, some 3] rfl ?_ (by simp -dsimp -implicitDefEqProofs (disch := omega) [go_sem, -List.getD_eq_getElem?_getD, ite_yes, ht])
    simp -dsimp -implicitDefEqProofs (disch := omega) [go_sem, -List.getD_eq_getElem?_getD, ite_yes]
    refine ⟨wl_sl ht, .inl ⟨rfl, nmE_flat _⟩, .inl ⟨rfl, nmE_flat _⟩, .inl ⟨rfl, nmE_flat _⟩⟩
  intro j hj
  obtain ⟨gl1, gl2⟩ := grTo_length l crews j
  by_cases hlt : j < l.length
  rotate_left
  · obtain rfl : j = l.length := by omega
    simp -dsimp -implicitDefEqProofs (disch := omega) [go_sem, -List.getD_eq_getElem?_getD, ite_yes, hlt]
    refine fin_list [some 3] rfl ?_ (by simp -dsimp -implicitDefEqProofs (disch := omega) [go_sem, -List.getD_eq_getElem?_getD, ite_yes, gl1])
    simp -dsimp -implicitDefEqProofs (disch := omega) [go_sem, -List.getD_eq_getElem?_getD, ite_yes]
    exact .inl ⟨rfl, nmE_flat _⟩
  have hjo : j < (ordG l l.length).length := by omega
  have hfo : ((ordG l l.length).flatMap nmE).length = l.length := by rw [nmE_length, hog]; omega
  have c1 := nm_cell (ordG l l.length) hjo
  obtain ⟨y, hy, hyl⟩ := ordG_mem l l.length ((ordG l l.length).getD j 0) (by rw [List.getD_eq_getElem?_getD, List.getElem?_eq_getElem hjo]; exact List.getElem_mem hjo)
  have e : grTo l crews (j + 1) = ((grTo l crews j).1.set ((ordG l l.length).getD j 0).toNat (am (grTo l crews j).2), (grTo l crews j).2.set (am (grTo l crews j).2) ((grTo l crews j).2.getD (am (grTo l crews j).2) 0 + mi l ((ordG l l.length).getD j 0))) := rfl
  have hrg := grTo_rng hgt.1 crews j (by omega)
  rw [hy] at e c1
  rw [Int.toNat_natCast] at e
  have hmi := (goodT_at hgt.1).2 y hyl
  have hmv : mi l (y : Int) = (l.getD y (0, 0, 0)).2.2 := by unfold mi; rw [Int.toNat_natCast]
  rw [hmv] at e
  have c2 := hS.cell (s := 3) (fun _ => rfl) (0, 0, 0) y 2 hyl (by omega)
  simp only [tkE] at c2
  generalize hst1 : (grTo l crews j).1 = so at *
  generalize hst2 : (grTo l crews j).2 = sl at *
  have hsl0 : 0 < sl.length := by omega
  have hal := am_lt hsl0
  have M := minNm_A sl hsl0 (by omega) crews.toNat
  have I := indexMin_A sl hsl0 (by omega) crews.toNat
  rw [gl2] at M I
  have hfs : (sl.flatMap nmE).length = crews.toNat := by rw [nmE_length, gl2]; omega
  have hfu : (so.flatMap nmE).length = l.length := by rw [nmE_length, gl1]; omega
  have s1 := nm_set so (am sl : Int) (q := y) (by omega)
  have s2 := nm_set sl (sl.getD (am sl) 0 + (l.getD y (0, 0, 0)).2.2) hal
  have c3 := nm_cell sl hal
  have hrq := hrg (am sl)
  have hyi : (y : Int) < (l.length : Int) := by omega
  have hac : (am sl : Int) < (crews.toNat : Int) := by omega
  have hacn : am sl < crews.toNat := by omega
  have hacc : am sl + 1 ≤ crews.toNat := by omega
  generalize am sl = a at *
  simp -dsimp -implicitDefEqProofs (disch := omega) [go_sem, -List.getD_eq_getElem?_getD, ite_yes, hlt, hfo, c1]
  refine ACall.of (M _ (H.length + 2) (Sl.nth 2 rfl rfl)) ?_
  simp -dsimp -implicitDefEqProofs (disch := omega) [go_sem, -List.getD_eq_getElem?_getD, ite_yes]
  refine ACall.of (I _ (H.length + 2) (Sl.nth 2 rfl rfl)) ?_
  simp -dsimp -implicitDefEqProofs (disch := omega) [go_sem, -List.getD_eq_getElem?_getD, ite_yes, hyi, hyl, hfu, s1]
  refine ADraw.any H (by kernel_rfl) (by first | exact SubH.refl | exact SubH.app | exact SubH.both (by simp [subL])) ?_
  refine AAny.takes (fuel := 8) (by kernel_rfl) (by kernel_rfl) [0, 1, 2, 5] (by kernel_rfl) (by kernel_rfl) ?_
  simp -dsimp -implicitDefEqProofs (disch := omega) [go_sem, -List.getD_eq_getElem?_getD, ite_yes, ht, hyi, hyl, hac, hacn, hacc, hfs, hfu, c2, c3, s2]
  refine AAny.two 7 3 4 (by kernel_rfl) (by kernel_rfl) (by kernel_rfl) ?_ ?_
  · simp -dsimp -implicitDefEqProofs (disch := omega) [go_sem, -List.getD_eq_getElem?_getD, ite_yes, ht, hyi, hyl, hac, hacn, hacc, hfs, hfu, c2, c3, s2]
    first | refine AAt.of (by first | exact SubH.refl | exact SubH.app | exact SubH.both (by simp [subL])) ?_ | (refine ⟨?_, AAt.of (by first | exact SubH.refl | exact SubH.app | exact SubH.both (by simp [subL])) ?_⟩; · omega)
    refine AAny.one 6 4 (by kernel_rfl) (by kernel_rfl) (by kernel_rfl) ?_
    simp -dsimp -implicitDefEqProofs (disch := omega) [go_sem, -List.getD_eq_getElem?_getD, ite_yes, ht, hyi, hyl, hac, hacn, hacc, hfs, hfu, c2, c3, s2]
    first | refine AAt.of (by first | exact SubH.refl | exact SubH.app | exact SubH.both (by simp [subL])) ?_ | (refine ⟨?_, AAt.of (by first | exact SubH.refl | exact SubH.app | exact SubH.both (by simp [subL])) ?_⟩; · omega)
    refine AAny.takes (fuel := 1) (by kernel_rfl) (by kernel_rfl) [6, 7, 8, 9, 10] (by kernel_rfl) (by kernel_rfl) ?_
    simp -dsimp -implicitDefEqProofs (disch := omega) [go_sem, -List.getD_eq_getElem?_getD, ite_yes, ht, hyi, hyl, hac, hacn, hacc, hfs, hfu, c2, c3, s2]
    refine AAny.one 0 11 (by kernel_rfl) (by kernel_rfl) (by kernel_rfl) ?_
    simp -dsimp -implicitDefEqProofs (disch := omega) [go_sem, -List.getD_eq_getElem?_getD, ite_yes, ht, hyi, hyl, hac, hacn, hacc, hfs, hfu, c2, c3, s2]
    first | refine AAt.of (by first | exact SubH.refl | exact SubH.app | exact SubH.both (by simp [subL])) ?_ | (refine ⟨?_, AAt.of (by first | exact SubH.refl | exact SubH.app | exact SubH.both (by simp [subL])) ?_⟩; · omega)
    refine AAny.done (by kernel_rfl) ?_
    simp -dsimp -implicitDefEqProofs (disch := omega) [go_sem, -List.getD_eq_getElem?_getD, ite_yes, ht, hyi, hyl, hac, hacn, hacc, hfs, hfu, c2, c3, s2]
    refine LoopEnd.of (j + 1) (by omega) (by omega) (weakS_mk [some 0, some 1, some 2, some 3] rfl ?_ (by simp -dsimp -implicitDefEqProofs (disch := omega) [go_sem, -List.getD_eq_getElem?_getD, ite_yes, ht]))
    simp -dsimp -implicitDefEqProofs (disch := omega) [go_sem, -List.getD_eq_getElem?_getD, ite_yes]
    exact ⟨wl_sl ht, .inl ⟨rfl, nmE_flat _⟩, .inl ⟨by rw [e], nmE_flat _⟩, .inl ⟨by rw [e], nmE_flat _⟩⟩
  · simp -dsimp -implicitDefEqProofs (disch := omega) [go_sem, -List.getD_eq_getElem?_getD, ite_yes, ht, hyi, hyl, hac, hacn, hacc, hfs, hfu, c2, c3, s2]
    first | refine AAt.of (by first | exact SubH.refl | exact SubH.app | exact SubH.both (by simp [subL])) ?_ | (refine ⟨?_, AAt.of (by first | exact SubH.refl | exact SubH.app | exact SubH.both (by simp [subL])) ?_⟩; · omega)
    refine AAny.takes (fuel := 4) (by kernel_rfl) (by kernel_rfl) [6, 7, 8] (by kernel_rfl) (by kernel_rfl) ?_
    simp -dsimp -implicitDefEqProofs (disch := omega) [go_sem, -List.getD_eq_getElem?_getD, ite_yes, ht, hyi, hyl, hac, hacn, hacc, hfs, hfu, c2, c3, s2]
    refine AAny.one 3 3 (by kernel_rfl) (by kernel_rfl) (by kernel_rfl) ?_
    simp -dsimp -implicitDefEqProofs (disch := omega) [go_sem, -List.getD_eq_getElem?_getD, ite_yes, ht, hyi, hyl, hac, hacn, hacc, hfs, hfu, c2, c3, s2]
    first | refine AAt.of (by first | exact SubH.refl | exact SubH.app | exact SubH.both (by simp [subL])) ?_ | (refine ⟨?_, AAt.of (by first | exact SubH.refl | exact SubH.app | exact SubH.both (by simp [subL])) ?_⟩; · omega)
    refine AAny.takes (fuel := 1) (by kernel_rfl) (by kernel_rfl) [9, 10] (by kernel_rfl) (by kernel_rfl) ?_
    simp -dsimp -implicitDefEqProofs (disch := omega) [go_sem, -List.getD_eq_getElem?_getD, ite_yes, ht, hyi, hyl, hac, hacn, hacc, hfs, hfu, c2, c3, s2]
    refine AAny.one 0 11 (by kernel_rfl) (by kernel_rfl) (by kernel_rfl) ?_
    simp -dsimp -implicitDefEqProofs (disch := omega) [go_sem, -List.getD_eq_getElem?_getD, ite_yes, ht, hyi, hyl, hac, hacn, hacc, hfs, hfu, c2, c3, s2]
    first | refine AAt.of (by first | exact SubH.refl | exact SubH.app | exact SubH.both (by simp [subL])) ?_ | (refine ⟨?_, AAt.of (by first | exact SubH.refl | exact SubH.app | exact SubH.both (by simp [subL])) ?_⟩; · omega)
    refine AAny.done (by kernel_rfl) ?_
    simp -dsimp -implicitDefEqProofs (disch := omega) [go_sem, -List.getD_eq_getElem?_getD, ite_yes, ht, hyi, hyl, hac, hacn, hacc, hfs, hfu, c2, c3, s2]
    refine LoopEnd.of (j + 1) (by omega) (by omega) (weakS_mk [some 0, some 1, some 2, some 3] rfl ?_ (by simp -dsimp -implicitDefEqProofs (disch := omega) [go_sem, -List.getD_eq_getElem?_getD, ite_yes, ht]))
    simp -dsimp -implicitDefEqProofs (disch := omega) [go_sem, -List.getD_eq_getElem?_getD, ite_yes]
    exact ⟨wl_sl ht, .inl ⟨rfl, nmE_flat _⟩, .inl ⟨by rw [e], nmE_flat _⟩, .inl ⟨by rw [e], nmE_flat _⟩⟩
end Go.Proofs.Ythajahknincjjaa
