/- Leak1, SortK, Leak4, RwL, RecAk, RecAk2, RecAk3, in one text. -/
import Derived.Test.YtdbneadblnejgaaRkM1
import Derived.Test.YtdbneadblnejgaaAm17
/- Areas: what is valid, and what is lost in a night. -/
namespace Go.Proofs.Ytdbneadblnejgaa
open Go.Am
set_option linter.unusedVariables false
set_option linter.unusedSimpArgs false
set_option maxRecDepth 100000
set_option maxHeartbeats 4000000
/-- an area's value -/
abbrev areaV (id ho : Int) (t n c : Nat) : Value := .agg #[.int .i64 id, .int .i64 ho, .slice (some ⟨t, 0, none⟩) n c]
def notF (x : Int) : Bool := !inB x 0 1000000
def flowsB (L : List Int) : Bool := !decide (0 ≤ ixOf notF L)
def areaB (id ho : Int) (L : List Int) : Bool := inB id 1 99 && (inB ho 1 10000 && (inB (L.length : Int) 1 14 && flowsB L))
structure AreaAt (id ho : Int) (L : List Int) : Prop where
  i : 1 ≤ id ∧ id ≤ 99
  h : 1 ≤ ho ∧ ho ≤ 10000
  n : 1 ≤ L.length ∧ L.length ≤ 14
  f : ∀ k, k < L.length → 0 ≤ L.getD k 0 ∧ L.getD k 0 ≤ 1000000
theorem inB_iff {x a b : Int} : inB x a b = true ↔ a ≤ x ∧ x ≤ b := by simp [inB]
theorem area_at {id ho : Int} {L : List Int} (h : areaB id ho L = true) : AreaAt id ho L := by
  unfold areaB at h
  simp only [Bool.and_eq_true, inB_iff] at h
  obtain ⟨h1, h2, h3, h4⟩ := h
  refine ⟨h1, h2, by omega, fun k hk => ?_⟩
  unfold flowsB at h4
  rcases ix_cases 0 notF L with ⟨_, h5⟩ | ⟨q, h5, _⟩
  · have := h5 k hk
    unfold notF at this
    have : inB (L.getD k 0) 0 1000000 = true := by simpa using this
    exact inB_iff.1 this
  · rw [h5, decide_eq_true (by omega)] at h4
    cases h4
theorem wl_area {id ho : Int} {t n c m j : Nat} {js : List (Option Nat)} (ht : t < m) : WL (sg m js) (m + j) [.int .i64 id, .int .i64 ho, .slice (some ⟨t, 0, none⟩) n c] [.int .i64 id, .int .i64 ho, .slice (some ⟨t, 0, none⟩) n c] :=
  have h : t < m + j := by omega
  .inr ⟨rfl, rfl, ⟨h, .inl ⟨t, c, by simp [sg, ht], rfl⟩⟩, trivial⟩
theorem isLeakFlow_A (x : Int) (H : Heap) : AFunC Try.prog 30 [.int .i64 x] H (.bool (inB x 0 1000000)) H := by
  refine AFunC.of_body Try.func30 (by kernel_rfl) rfl (by kernel_rfl) (by simp [Try.ntmps30]) ?_
  simp -dsimp -implicitDefEqProofs (disch := omega) [go_sem, -List.getD_eq_getElem?_getD, ite_yes]
  refine ACall.of (inside_A _ _ _ _) ?_
  simp -dsimp -implicitDefEqProofs (disch := omega) [go_sem, -List.getD_eq_getElem?_getD, ite_yes]
  exact fin_flat0 rfl rfl
theorem validArea1_A (x : Int) (H : Heap) : AFunC Try.prog 29 [.int .i64 x] H (.bool (notF x)) H := by
  refine AFunC.of_body Try.func29 (by kernel_rfl) rfl (by kernel_rfl) (by simp [Try.ntmps29]) ?_
  simp -dsimp -implicitDefEqProofs (disch := omega) [go_sem, -List.getD_eq_getElem?_getD, ite_yes]
  refine ACall.of (isLeakFlow_A _ _) ?_
  simp -dsimp -implicitDefEqProofs (disch := omega) [go_sem, -List.getD_eq_getElem?_getD, ite_yes]
  exact fin_flat0 rfl rfl
theorem validArea_A (id ho : Int) (L : List Int) (hL : L.length ≤ 1048577) (c : Nat) (H : Heap) (t : Nat) (hS : Sl nmE H t L) :
    AFunC Try.prog 17 [areaV id ho t L.length c] H (.bool (areaB id ho L)) H := by
  refine AFunC.of_body Try.func17 (by kernel_rfl) rfl (by kernel_rfl) (by simp [Try.ntmps17]) ?_
  have ht := hS.lt
  simp -dsimp -implicitDefEqProofs (disch := omega) [go_sem, -List.getD_eq_getElem?_getD, ite_yes, ht]
  refine ACall.of (inside_A _ _ _ _) ?_
  cases h1 : inB id 1 99
  · simp -dsimp -implicitDefEqProofs (disch := omega) [go_sem, -List.getD_eq_getElem?_getD, ite_yes, ht]
    exact fin_flat rfl (by rw [areaB, h1]; rfl)
  simp -dsimp -implicitDefEqProofs (disch := omega) [go_sem, -List.getD_eq_getElem?_getD, ite_yes, ht]
  refine ACall.of (inside_A _ _ _ _) ?_
  cases h2 : inB ho 1 10000
  · simp -dsimp -implicitDefEqProofs (disch := omega) [go_sem, -List.getD_eq_getElem?_getD, ite_yes, ht]
    exact fin_flat rfl (by rw [areaB, h1, h2]; rfl)
  simp -dsimp -implicitDefEqProofs (disch := omega) [go_sem, -List.getD_eq_getElem?_getD, ite_yes, ht]
  refine ACall.of (inside_A _ _ _ _) ?_
  cases h3 : inB (L.length : Int) 1 14
  · simp -dsimp -implicitDefEqProofs (disch := omega) [go_sem, -List.getD_eq_getElem?_getD, ite_yes, ht]
    exact fin_flat rfl (by rw [areaB, h1, h2, h3]; rfl)
  simp -dsimp -implicitDefEqProofs (disch := omega) [go_sem, -List.getD_eq_getElem?_getD, ite_yes, ht]
  refine ACall.of (containsFuncNm_A L notF 29 #[] hL c _ t hS.app trivial fun k hk => validArea1_A _ _) ?_
  simp -dsimp -implicitDefEqProofs (disch := omega) [go_sem, -List.getD_eq_getElem?_getD, ite_yes]
  exact fin_flat rfl (by rw [areaB, h1, h2, h3, flowsB]; simp)
theorem l17Flow_A (x : Int) (H : Heap) : AFunC Try.prog 33 [.int .i64 x] H (.bool (inB x 0 1000000)) H := by
  refine AFunC.of_body Try.func33 (by kernel_rfl) rfl (by kernel_rfl) (by simp [Try.ntmps33]) ?_
  simp -dsimp -implicitDefEqProofs (disch := omega) [go_sem, -List.getD_eq_getElem?_getD, ite_yes]
  refine ACall.of (l1In_A _ _ _ _) ?_
  simp -dsimp -implicitDefEqProofs (disch := omega) [go_sem, -List.getD_eq_getElem?_getD, ite_yes]
  exact fin_flat0 rfl rfl
theorem l17Good_A (id ho : Int) (L : List Int) (hL : L.length ≤ 1048577) (c : Nat) (H : Heap) (t : Nat) (hS : Sl nmE H t L) :
    AFunC Try.prog 24 [areaV id ho t L.length c] H (.bool (areaB id ho L)) H := by
  refine AFunC.of_body Try.func24 (by kernel_rfl) rfl (by kernel_rfl) (by simp [Try.ntmps24]) ?_
  have ht := hS.lt
  have cs := fun k hk => hS.one (g := fun n => Value.int .i64 n) 0 k hk
  have hr := found_ix 0 notF L
  simp -dsimp -implicitDefEqProofs (disch := omega) [go_sem, -List.getD_eq_getElem?_getD, ite_yes, ht]
  refine ALoop.intro (ι := Nat) (fun k => k ≤ L.length ∧ findTo 0 notF L k) (fun k => [(1, .pointer (some ⟨H.length, 0, none⟩)), (3, .int .i64 k)]) (fun _ => H ++ [some ⟨[.int .i64 id, .int .i64 ho, .slice (some ⟨t, 0, none⟩) L.length c], true, 39, 1⟩]) (fun k => L.length - k) 0 ⟨by omega, fun i hi => by omega⟩ ?_ ?_
  · refine weakS_mk [some 0] rfl ?_ (by simp -dsimp -implicitDefEqProofs (disch := omega) [go_sem, -List.getD_eq_getElem?_getD, ite_yes, ht])
    simp -dsimp -implicitDefEqProofs (disch := omega) [go_sem, -List.getD_eq_getElem?_getD, ite_yes]
    exact wl_area ht
  rintro k ⟨hk, hf⟩
  by_cases hlt : k < L.length
  · have hltn : (k : Int) < (L.length : Int) := by omega
    have c1 := cs k hlt
    simp -dsimp -implicitDefEqProofs (disch := omega) [go_sem, -List.getD_eq_getElem?_getD, ite_yes, hlt, hltn, ht, c1]
    refine ACall.of (l17Flow_A _ _) ?_
    cases h : inB (L.getD k 0) 0 1000000
    · simp -dsimp -implicitDefEqProofs (disch := omega) [go_sem, -List.getD_eq_getElem?_getD, ite_yes]
      have := found_uniq hr (.yes k hlt (by unfold notF; rw [h]; rfl) hf)
      exact fin_flat rfl (by rw [areaB, flowsB, this, decide_eq_true (show (0 : Int) ≤ (k : Int) by omega)]; simp)
    · simp -dsimp -implicitDefEqProofs (disch := omega) [go_sem, -List.getD_eq_getElem?_getD, ite_yes]
      refine LoopEnd.of (k + 1) ⟨by omega, hf.next (by unfold notF; rw [h]; rfl)⟩ (by omega) (weakS_mk [some 0] rfl ?_ (by simp -dsimp -implicitDefEqProofs (disch := omega) [go_sem, -List.getD_eq_getElem?_getD, ite_yes, ht]))
      simp -dsimp -implicitDefEqProofs (disch := omega) [go_sem, -List.getD_eq_getElem?_getD, ite_yes]
      exact wl_area ht
  · have hltn : ¬ (k : Int) < (L.length : Int) := by omega
    obtain rfl : k = L.length := by omega
    have e := found_uniq hr (.no hf)
    have ef : flowsB L = true := by rw [flowsB, e]; rfl
    simp -dsimp -implicitDefEqProofs (disch := omega) [go_sem, -List.getD_eq_getElem?_getD, ite_yes, hltn, ht]
    refine ACall.of (l1In_A _ _ _ _) ?_
    cases h1 : inB id 1 99
    · simp -dsimp -implicitDefEqProofs (disch := omega) [go_sem, -List.getD_eq_getElem?_getD, ite_yes, ht]
      exact fin_flat rfl (by rw [areaB, h1]; rfl)
    simp -dsimp -implicitDefEqProofs (disch := omega) [go_sem, -List.getD_eq_getElem?_getD, ite_yes, ht]
    refine ACall.of (l1In_A _ _ _ _) ?_
    cases h2 : inB ho 1 10000
    · simp -dsimp -implicitDefEqProofs (disch := omega) [go_sem, -List.getD_eq_getElem?_getD, ite_yes, ht]
      exact fin_flat rfl (by rw [areaB, h1, h2]; rfl)
    simp -dsimp -implicitDefEqProofs (disch := omega) [go_sem, -List.getD_eq_getElem?_getD, ite_yes, ht]
    refine ACall.of (l1In_A _ _ _ _) ?_
    simp -dsimp -implicitDefEqProofs (disch := omega) [go_sem, -List.getD_eq_getElem?_getD, ite_yes, ht]
    exact fin_flat rfl (by rw [areaB, h1, h2, ef]; simp)
/-- what is lost in a night -/
def lossN (ho : Int) (L : List Int) (k : Nat) : Int := max (L.getD k 0 - 2 * ho) 0
theorem loss_rng {id ho : Int} {L : List Int} (h : AreaAt id ho L) {k : Nat} (hk : k < L.length) : 0 ≤ lossN ho L k ∧ lossN ho L k ≤ 1000000 := by
  have := h.f k hk
  have := h.h
  unfold lossN
  omega
theorem lossOn_A (id ho : Int) (L : List Int) (ha : AreaAt id ho L) (k : Nat) (hk : k < L.length) (c : Nat) (H : Heap) (t : Nat) (hS : Sl nmE H t L) :
    AFunC Try.prog 21 [areaV id ho t L.length c, .int .i64 k] H (.int .i64 (lossN ho L k)) H := by
  refine AFunC.of_body Try.func21 (by kernel_rfl) rfl (by kernel_rfl) (by simp [Try.ntmps21]) ?_
  have ht := hS.lt
  have c1 := hS.one (g := fun n => Value.int .i64 n) 0 k hk
  have hki : (k : Int) < (L.length : Int) := by omega
  have hf := ha.f k hk
  have hh := ha.h
  simp -dsimp -implicitDefEqProofs (disch := omega) [go_sem, -List.getD_eq_getElem?_getD, ite_yes, ht]
  refine ADraw.quiet (by kernel_rfl) (by kernel_rfl) (by kernel_rfl) ?_
  simp -dsimp -implicitDefEqProofs (disch := omega) [go_sem, -List.getD_eq_getElem?_getD, ite_yes, ht, hk, hki, c1]
  have em : ∀ x : Int, (if x < 0 then 0 else x) = max x 0 := fun x => by split <;> omega
  exact fin_flat rfl (by simp [lossN, em])
theorem l17Lost_A (id ho : Int) (L : List Int) (ha : AreaAt id ho L) (k : Nat) (hk : k < L.length) (c : Nat) (H : Heap) (t : Nat) (hS : Sl nmE H t L) :
    AFunC Try.prog 25 [areaV id ho t L.length c, .int .i64 k] H (.int .i64 (lossN ho L k)) H := by
  refine AFunC.of_body Try.func25 (by kernel_rfl) rfl (by kernel_rfl) (by simp [Try.ntmps25]) ?_
  have ht := hS.lt
  have c1 := hS.one (g := fun n => Value.int .i64 n) 0 k hk
  have hki : (k : Int) < (L.length : Int) := by omega
  have hf := ha.f k hk
  have hh := ha.h
  simp -dsimp -implicitDefEqProofs (disch := omega) [go_sem, -List.getD_eq_getElem?_getD, ite_yes, ht]
  refine ADraw.quiet (by kernel_rfl) (by kernel_rfl) (by kernel_rfl) ?_
  simp -dsimp -implicitDefEqProofs (disch := omega) [go_sem, -List.getD_eq_getElem?_getD, ite_yes, ht, hk, hki, c1]
  refine ACallQ.of (l1Most_A _ _ _) rfl ?_
  simp -dsimp -implicitDefEqProofs (disch := omega) [go_sem, -List.getD_eq_getElem?_getD, ite_yes]
  exact fin_flat rfl (by simp [lossN]; omega)
def lossOk (id ho : Int) (L : List Int) (x : Int) : Bool := areaB id ho L && inB x 0 ((L.length : Int) - 1)
theorem lossOk_at {id ho : Int} {L : List Int} {x : Int} (h : lossOk id ho L x = true) : areaB id ho L = true ∧ ∃ k : Nat, x = (k : Int) ∧ k < L.length := by
  unfold lossOk at h
  rw [Bool.and_eq_true, inB_iff] at h
  exact ⟨h.1, x.toNat, by omega, by omega⟩
def lossSum (ho : Int) (L : List Int) : Nat → Int
  | 0 => 0
  | k + 1 => lossSum ho L k + lossN ho L k
theorem lossSum_rng {id ho : Int} {L : List Int} (h : AreaAt id ho L) : ∀ k, k ≤ L.length → 0 ≤ lossSum ho L k ∧ lossSum ho L k ≤ 1000000 * (k : Int)
  | 0, _ => by simp [lossSum]
  | k + 1, hk => by
    have ih := lossSum_rng h k (by omega)
    have := loss_rng h (show k < L.length by omega)
    rw [lossSum]
    omega
end Go.Proofs.Ytdbneadblnejgaa
/- A stable sort of areas, by a comparison that is told. -/
namespace Go.Proofs.Ytdbneadblnejgaa
open Go.Am
set_option linter.unusedVariables false
set_option linter.unusedSimpArgs false
set_option maxRecDepth 100000
set_option maxHeartbeats 4000000
/-- an area in a heap: number, houses, where its nights lie, their capacity as told, the nights -/
abbrev Ak := Int × Int × Nat × Nat × List Int
def akE (r : Ak) : List Value := [.int .i64 r.1, .int .i64 r.2.1, .slice (some ⟨r.2.2.1, 0, none⟩) r.2.2.2.2.length r.2.2.2.1]
abbrev akD : Ak := (0, 0, 0, 0, [])
theorem akE_length (l : List Ak) : (l.flatMap akE).length = l.length * 3 := flatMap_length akE 3 (fun _ => rfl) l
theorem wm_aks {R : List Ak} {n m : Nat} {σ : Sig} (hσ : ∀ t, t < n → σ t = some t) (h : n ≤ m) (hR : ∀ r ∈ R, r.2.2.1 < n) : L2 (WM σ m) (R.flatMap akE) (R.flatMap akE) := by
  refine L2.refl fun x hx => ?_
  obtain ⟨r, hr, hx⟩ := List.mem_flatMap.1 hx
  have := hR r hr
  simp only [akE, List.mem_cons, List.not_mem_nil, or_false] at hx
  rcases hx with rfl | rfl | rfl
  · rfl
  · rfl
  · exact ⟨by show r.2.2.1 < m; omega, .inl ⟨r.2.2.1, r.2.2.2.1, hσ _ this, rfl⟩⟩
theorem wm_aks0 {R : List Ak} {H : Heap} (hR : ∀ r ∈ R, r.2.2.1 < H.length) : L2 (WM (sg H.length []) H.length) (R.flatMap akE) (R.flatMap akE) := wm_aks (n := H.length) (fun t ht => by simp only [sg, ht, if_true]) (Nat.le_refl _) hR
/-- where an area belongs among some: behind the last of the first k that it does not go before -/
def posK (lt : Ak → Ak → Bool) (L : List Ak) (x : Ak) : Nat → Nat
  | 0 => 0
  | k + 1 => if lt x (L.getD k akD) then posK lt L x k else k + 1
theorem posK_le (lt : Ak → Ak → Bool) (L : List Ak) (x : Ak) : ∀ k, posK lt L x k ≤ k
  | 0 => Nat.le_refl _
  | k + 1 => by have := posK_le lt L x k; rw [posK]; split <;> omega
def insK (lt : Ak → Ak → Bool) (L : List Ak) (x : Ak) : List Ak := L.take (posK lt L x L.length) ++ x :: L.drop (posK lt L x L.length)
def ordK (lt : Ak → Ak → Bool) (l : List Ak) : Nat → List Ak
  | 0 => []
  | i + 1 => insK lt (ordK lt l i) (l.getD i akD)
theorem insK_length (lt : Ak → Ak → Bool) (L : List Ak) (x : Ak) : (insK lt L x).length = L.length + 1 := by
  have := posK_le lt L x L.length
  rw [insK]
  simp only [List.length_append, List.length_take, List.length_cons, List.length_drop]
  omega
theorem ordK_length (lt : Ak → Ak → Bool) (l : List Ak) : ∀ i, (ordK lt l i).length = i
  | 0 => rfl
  | i + 1 => by rw [ordK, insK_length, ordK_length lt l i]
theorem ordK_app (lt : Ak → Ak → Bool) (l m : List Ak) : ∀ i, i ≤ l.length → ordK lt (l ++ m) i = ordK lt l i
  | 0, _ => rfl
  | i + 1, h => by
    rw [ordK, ordK, ordK_app lt l m i (by omega)]
    congr 1
    rw [List.getD_eq_getElem?_getD, List.getD_eq_getElem?_getD, List.getElem?_append_left (by omega)]
def sortK (lt : Ak → Ak → Bool) (l : List Ak) : List Ak := ordK lt l l.length
theorem sortK_snoc (lt : Ak → Ak → Bool) (l : List Ak) (x : Ak) : sortK lt (l ++ [x]) = insK lt (sortK lt l) x := by
  unfold sortK
  rw [List.length_append, List.length_singleton, ordK, ordK_app lt l [x] l.length (Nat.le_refl _)]
  congr 1
  rw [List.getD_eq_getElem?_getD, List.getElem?_append_right (Nat.le_refl _), Nat.sub_self]; rfl
/-- the list within the sort: the i-th stands at j -/
def midK (lt : Ak → Ak → Bool) (l : List Ak) (i j : Nat) : List Ak := (ordK lt l i).take j ++ l.getD i akD :: ((ordK lt l i).drop j ++ l.drop (i + 1))
def outK (lt : Ak → Ak → Bool) (l : List Ak) (i : Nat) : List Ak := ordK lt l i ++ l.drop i
theorem outK_mid {lt : Ak → Ak → Bool} {l : List Ak} {i : Nat} (h : i < l.length) : outK lt l i = midK lt l i i := by
  unfold outK midK
  rw [show (ordK lt l i).take i = ordK lt l i from List.take_of_length_le (by rw [ordK_length]; omega), show (ordK lt l i).drop i = [] from List.drop_of_length_le (by rw [ordK_length]; omega), List.nil_append, List.drop_eq_getElem_cons h, List.getD_eq_getElem?_getD, List.getElem?_eq_getElem h]
  rfl
theorem midK_out (lt : Ak → Ak → Bool) (l : List Ak) (i : Nat) : midK lt l i (posK lt (ordK lt l i) (l.getD i akD) i) = outK lt l (i + 1) := by
  unfold outK midK
  rw [ordK, insK, ordK_length, List.append_assoc, List.cons_append]
theorem ak_at (A T : List Ak) (y : Ak) : List.take 3 (List.drop (A.length * 3) ((A ++ y :: T).flatMap akE)) = akE y := by
  have := flatMap_cells akE 3 (fun _ => rfl) akD (A ++ y :: T) A.length (by simp)
  rw [this]
  simp
theorem ak_put (A T : List Ak) (y z : Ak) : (A ++ z :: T).flatMap akE = ((A ++ y :: T).flatMap akE).take (A.length * 3) ++ (akE z ++ ((A ++ y :: T).flatMap akE).drop (A.length * 3 + 3)) := by
  have := set_flat_eq (f := akE) (s := 3) (l := A ++ y :: T) (i := A.length) (fun _ => rfl) z (by simp)
  rw [← this]
  simp
theorem ordK_mem {lt : Ak → Ak → Bool} {l : List Ak} {r : Ak} : ∀ {i}, i ≤ l.length → r ∈ ordK lt l i → r ∈ l
  | 0, _, h => by cases h
  | i + 1, hi, h => by
    rw [ordK, insK] at h
    rcases List.mem_append.1 h with h | h
    · exact ordK_mem (by omega) (List.mem_of_mem_take h)
    · rcases List.mem_cons.1 h with h | h
      · rw [h, List.getD_eq_getElem?_getD, List.getElem?_eq_getElem (by omega)]; exact List.getElem_mem _
      · exact ordK_mem (by omega) (List.mem_of_mem_drop h)
theorem outK_mem {lt : Ak → Ak → Bool} {l : List Ak} {r : Ak} {i : Nat} (hi : i ≤ l.length) (h : r ∈ outK lt l i) : r ∈ l := by
  rcases List.mem_append.1 h with h | h
  · exact ordK_mem hi h
  · exact List.mem_of_mem_drop h
theorem midK_mem {lt : Ak → Ak → Bool} {l : List Ak} {r : Ak} {i j : Nat} (hi : i < l.length) (h : r ∈ midK lt l i j) : r ∈ l := by
  rcases List.mem_append.1 h with h | h
  · exact ordK_mem (by omega) (List.mem_of_mem_take h)
  · rcases List.mem_cons.1 h with h | h
    · rw [h, List.getD_eq_getElem?_getD, List.getElem?_eq_getElem hi]; exact List.getElem_mem _
    · rcases List.mem_append.1 h with h | h
      · exact ordK_mem (by omega) (List.mem_of_mem_drop h)
      · exact List.mem_of_mem_drop h
theorem insK_A (lt : Ak → Ak → Bool) (l : List Ak) (hl8 : l.length ≤ 8) (c e g : Nat) (H : Heap) (t : Nat) (hb : H.get t = some ⟨l.flatMap akE, true, e, 3⟩) (hA : ∀ r ∈ l, r.2.2.1 < H.length)
    (hC : ∀ G : Heap, (∀ s, s ≠ t → G.get s = H.get s) → G.length = H.length → ∀ x ∈ l, ∀ y ∈ l, ∃ r : Int, AFunC Try.prog g [.agg #[.int .i64 x.1, .int .i64 x.2.1, .slice (some ⟨x.2.2.1, 0, none⟩) x.2.2.2.2.length x.2.2.2.1], .agg #[.int .i64 y.1, .int .i64 y.2.1, .slice (some ⟨y.2.2.1, 0, none⟩) y.2.2.2.2.length y.2.2.2.1]] (roH G) (.int .i64 r) (roH G) ∧ (lt x y = true ↔ r < 0)) :
    AFunC Try.prog 37 [.slice (some ⟨t, 0, none⟩) l.length c, .int .i64 0, .int .i64 l.length, .func (.func g) #[] #[]] H (.tuple #[]) (H.set t (some ⟨(sortK lt l).flatMap akE, true, e, 3⟩)) := by
  refine AFunC.of_body Try.func37 (by kernel_rfl) rfl (by kernel_rfl) (by simp [Try.ntmps37]) ?_
  have ht := Heap.get_lt hb
  have gs := fun x => Heap.get_set_self (H := H) ht (x := x)
  have e0 : l.length ≠ 0 → outK lt l 1 = l := fun h => by
    unfold outK
    rw [ordK, insK]
    cases l with
    | nil => exact absurd rfl h
    | cons x l => simp [ordK, posK]
  simp -dsimp -implicitDefEqProofs (disch := omega) [go_sem, -List.getD_eq_getElem?_getD, ite_yes, ht]
  refine ALoop.intro (ι := Nat) (fun i => 1 ≤ i ∧ i ≤ max l.length 1) (fun i => [(0, .slice (some ⟨t, 0, none⟩) l.length c), (1, .int .i64 0), (2, .int .i64 l.length), (3, .func (.func g) #[] #[]), (8, .int .i64 i)])
    (fun i => H.set t (some ⟨(if l.length = 0 then [] else outK lt l i).flatMap akE, true, e, 3⟩)) (fun i => l.length - i) 1 (by omega) ?_ ?_
  · refine weakS_setA (b := ⟨(if l.length = 0 then [] else outK lt l 1).flatMap akE, true, e, 3⟩) [] ht (wm_aks0 fun r hr => by
      split at hr
      · cases hr
      · exact hA r (outK_mem (by omega) hr)) rfl ?_ (by simp -dsimp -implicitDefEqProofs (disch := omega) [go_sem, -List.getD_eq_getElem?_getD, ite_yes, ht])
    have : (if l.length = 0 then [] else outK lt l 1) = l := by
      by_cases h : l.length = 0
      · rw [if_pos h]; exact (List.eq_nil_of_length_eq_zero h).symm
      · rw [if_neg h]; exact e0 h
    rw [List.append_nil, this]; exact (Heap.set_self hb).symm
  rintro i ⟨hi1, hi2⟩
  by_cases hlt : i < l.length
  rotate_left
  · have hlti : ¬ (i : Int) < (l.length : Int) := by omega
    have he : (if l.length = 0 then [] else outK lt l i) = sortK lt l := by
      by_cases h : l.length = 0
      · rw [if_pos h]; unfold sortK; rw [h]; rfl
      · rw [if_neg h]
        have : i = l.length := by omega
        subst this
        unfold outK sortK; rw [List.drop_length, List.append_nil]
    rw [he]
    simp -dsimp -implicitDefEqProofs (disch := omega) [go_sem, -List.getD_eq_getElem?_getD, ite_yes, hlti, hlt]
    exact fin_setA (b := ⟨(sortK lt l).flatMap akE, true, e, 3⟩) [] ht (wm_aks0 fun r hr => hA r (ordK_mem (Nat.le_refl _) hr)) rfl (by rw [List.append_nil]) ⟨_, rfl, trivial⟩
  have hlti : (i : Int) < (l.length : Int) := by omega
  have hn0 : l.length ≠ 0 := by omega
  have hol := ordK_length lt l i
  simp only [hn0, if_false]
  have hx0 : l.getD i akD ∈ l := by rw [List.getD_eq_getElem?_getD, List.getElem?_eq_getElem hlt]; exact List.getElem_mem _
  have hmM : ∀ j, ∀ r ∈ midK lt l i j, r.2.2.1 < H.length := fun j r hr => hA r (midK_mem hlt hr)
  have hmO : ∀ r ∈ outK lt l (i + 1), r.2.2.1 < H.length := fun r hr => hA r (outK_mem hlt hr)
  simp -dsimp -implicitDefEqProofs (disch := omega) [go_sem, -List.getD_eq_getElem?_getD, ite_yes, hlti, hlt, ht]
  refine ALoop.intro (ι := Nat) (fun j => j ≤ i ∧ posK lt (ordK lt l i) (l.getD i akD) i = posK lt (ordK lt l i) (l.getD i akD) j) (fun j => [(0, .slice (some ⟨t, 0, none⟩) l.length c), (1, .int .i64 0), (2, .int .i64 l.length), (3, .func (.func g) #[] #[]), (8, .int .i64 i), (9, .int .i64 j)])
    (fun j => H.set t (some ⟨(midK lt l i j).flatMap akE, true, e, 3⟩)) (fun j => j) i ⟨Nat.le_refl _, rfl⟩ ?_ ?_
  · exact weakS_setA (b := ⟨(midK lt l i i).flatMap akE, true, e, 3⟩) [] ht (wm_aks0 (hmM i)) rfl (by rw [outK_mid hlt, List.append_nil]) (by simp -dsimp -implicitDefEqProofs (disch := omega) [go_sem, -List.getD_eq_getElem?_getD, ite_yes, ht])
  rintro j ⟨hj, hpos⟩
  have hend : posK lt (ordK lt l i) (l.getD i akD) j = j → midK lt l i j = outK lt l (i + 1) := fun h => by rw [← midK_out, hpos, h]
  have hset : ∀ m : List Ak, m = outK lt l (i + 1) → H.set t (some ⟨m.flatMap akE, true, e, 3⟩) = H.set t (some ⟨(outK lt l (i + 1)).flatMap akE, true, e, 3⟩) := fun m h => by rw [h]
  cases j with
  | zero =>
    have hm := hend rfl
    obtain ⟨M, hM⟩ : ∃ M, midK lt l i 0 = M := ⟨_, rfl⟩
    rw [hM] at hm ⊢
    simp -dsimp -implicitDefEqProofs (disch := omega) [go_sem, -List.getD_eq_getElem?_getD, ite_yes, ht]
    refine ADraw.quiet (by kernel_rfl) (by kernel_rfl) (by kernel_rfl) ?_
    simp -dsimp -implicitDefEqProofs (disch := omega) [go_sem, -List.getD_eq_getElem?_getD, ite_yes, ht]
    exact LoopEnd.of (i + 1) (by omega) (by omega) (weakS_setA (b := ⟨(outK lt l (i + 1)).flatMap akE, true, e, 3⟩) [] ht (wm_aks0 hmO) (by simp only [hn0, if_false]) (by rw [List.append_nil]; exact hset M hm) (by simp -dsimp -implicitDefEqProofs (disch := omega) [go_sem, -List.getD_eq_getElem?_getD, ite_yes, ht]))
  | succ j =>
  have hjl : j < (ordK lt l i).length := by omega
  have htl : ((ordK lt l i).take j).length = j := by rw [List.length_take]; omega
  obtain ⟨y, hy⟩ : ∃ y, (ordK lt l i)[j] = y := ⟨_, rfl⟩
  have hyd : (ordK lt l i).getD j akD = y := by rw [List.getD_eq_getElem?_getD, List.getElem?_eq_getElem hjl]; exact hy
  have hp : posK lt (ordK lt l i) (l.getD i akD) (j + 1) = if lt (l.getD i akD) y then posK lt (ordK lt l i) (l.getD i akD) j else j + 1 := by rw [posK, hyd]
  have eM : midK lt l i (j + 1) = (ordK lt l i).take j ++ y :: l.getD i akD :: ((ordK lt l i).drop (j + 1) ++ l.drop (i + 1)) := by
    unfold midK
    rw [List.take_succ_eq_append_getElem hjl, hy, List.append_assoc]; rfl
  have eM2 : midK lt l i j = (ordK lt l i).take j ++ l.getD i akD :: y :: ((ordK lt l i).drop (j + 1) ++ l.drop (i + 1)) := by
    unfold midK
    rw [List.drop_eq_getElem_cons hjl, hy, List.cons_append]
  have hlen : (midK lt l i (j + 1)).length = l.length := by
    rw [eM]; simp only [List.length_append, List.length_cons, List.length_drop, htl]; omega
  have hy0 : y ∈ l := ordK_mem (lt := lt) (i := i) (by omega) (hy ▸ List.getElem_mem hjl)
  obtain ⟨r, C, hr⟩ := hC (H.set t (some ⟨(midK lt l i (j + 1)).flatMap akE, true, e, 3⟩)) (fun s hs => Heap.get_set_ne hs) (by simp) (l.getD i akD) hx0 y hy0
  generalize l.getD i akD = x at hpos hp eM eM2 hend C hr
  have hfl : ((midK lt l i (j + 1)).flatMap akE).length = l.length * 3 := by rw [akE_length, hlen]
  have ca : aCells (H.set t (some ⟨(midK lt l i (j + 1)).flatMap akE, true, e, 3⟩)) ⟨t, (j + 1) * 3, none⟩ 3 = some (akE x) := by
    have h9 := ak_at ((ordK lt l i).take j ++ [y]) ((ordK lt l i).drop (j + 1) ++ l.drop (i + 1)) x
    rw [List.append_assoc, List.length_append, htl] at h9
    rw [aCells_eq, gs, aC1]
    simp only [hfl]
    rw [if_pos (by omega), eM]
    exact congrArg some h9
  have cb : aCells (H.set t (some ⟨(midK lt l i (j + 1)).flatMap akE, true, e, 3⟩)) ⟨t, j * 3, none⟩ 3 = some (akE y) := by
    have h9 := ak_at ((ordK lt l i).take j) (x :: ((ordK lt l i).drop (j + 1) ++ l.drop (i + 1))) y
    rw [htl] at h9
    rw [aCells_eq, gs, aC1]
    simp only [hfl]
    rw [if_pos (by omega), eM]
    exact congrArg some h9
  obtain ⟨M1, hM1⟩ : ∃ M, (ordK lt l i).take j ++ y :: y :: ((ordK lt l i).drop (j + 1) ++ l.drop (i + 1)) = M := ⟨_, rfl⟩
  have s1 : ((midK lt l i (j + 1)).flatMap akE).take ((j + 1) * 3) ++ (akE y ++ ((midK lt l i (j + 1)).flatMap akE).drop ((j + 1) * 3 + 3)) = M1.flatMap akE := by
    have h9 := ak_put ((ordK lt l i).take j ++ [y]) ((ordK lt l i).drop (j + 1) ++ l.drop (i + 1)) x y
    rw [List.append_assoc, List.length_append, htl, List.append_assoc] at h9
    rw [eM, ← hM1]
    exact h9.symm
  have s2 : (M1.flatMap akE).take (j * 3) ++ (akE x ++ (M1.flatMap akE).drop (j * 3 + 3)) = (midK lt l i j).flatMap akE := by
    have h9 := ak_put ((ordK lt l i).take j) (y :: ((ordK lt l i).drop (j + 1) ++ l.drop (i + 1))) y x
    rw [htl] at h9
    rw [eM2, ← hM1]
    exact h9.symm
  have hfl2 : (M1.flatMap akE).length = l.length * 3 := by
    rw [← s1]
    simp only [List.length_append, List.length_take, List.length_drop, hfl, akE, List.length_cons, List.length_nil]
    omega
  simp only [akE, List.cons_append, List.nil_append] at ca cb s1 s2
  obtain ⟨M, hM⟩ : ∃ M, midK lt l i (j + 1) = M := ⟨_, rfl⟩
  rw [hM] at hend hfl ca cb s1 C ⊢
  have hj0 : j < l.length := by omega
  have hj1 : j + 1 < l.length := by omega
  simp -dsimp -implicitDefEqProofs (disch := omega) [go_sem, -List.getD_eq_getElem?_getD, ite_yes, ht]
  refine ADraw.quiet (by kernel_rfl) (by kernel_rfl) (by kernel_rfl) ?_
  simp -dsimp -implicitDefEqProofs (disch := omega) [go_sem, -List.getD_eq_getElem?_getD, ite_yes, ht, hj0, hj1, ca, cb]
  refine ACallQ.of C rfl ?_
  by_cases hxy : lt x y = true
  · rw [if_pos hxy] at hp
    rw [hp] at hpos
    have hc := hr.1 hxy
    simp -dsimp -implicitDefEqProofs (disch := omega) [go_sem, -List.getD_eq_getElem?_getD, ite_yes, ht, hc]
    refine ADraw.any [] (by kernel_rfl) (SubH.nil) ?_
    refine AAny.takes (fuel := 6) (by kernel_rfl) (by kernel_rfl) [0, 1, 2, 3, 4, 5, 6, 7, 8, 10, 11, 12] (by kernel_rfl) (by kernel_rfl) ?_
    simp -dsimp -implicitDefEqProofs (disch := omega) [go_sem, -List.getD_eq_getElem?_getD, ite_yes, ht, hj0, hj1, ca, cb, gs, hfl, hfl2, s1, s2, List.set_set]
    refine AAny.two 5 9 13 (by kernel_rfl) (by kernel_rfl) (by kernel_rfl) ?_ ?_
    · simp -dsimp -implicitDefEqProofs (disch := omega) [go_sem, -List.getD_eq_getElem?_getD, ite_yes, ht, hj0, hj1, ca, cb, gs, hfl, hfl2, s1, s2, List.set_set]
      first | refine AAt.of (SubH.nil) ?_ | (refine ⟨?_, AAt.of (SubH.nil) ?_⟩; · omega)
      refine AAny.one 4 13 (by kernel_rfl) (by kernel_rfl) (by kernel_rfl) ?_
      simp -dsimp -implicitDefEqProofs (disch := omega) [go_sem, -List.getD_eq_getElem?_getD, ite_yes, ht, hj0, hj1, ca, cb, gs, hfl, hfl2, s1, s2, List.set_set]
      first | refine AAt.of (SubH.nil) ?_ | (refine ⟨?_, AAt.of (SubH.nil) ?_⟩; · omega)
      refine AAny.takes (fuel := 3) (by kernel_rfl) (by kernel_rfl) [14] (by kernel_rfl) (by kernel_rfl) ?_
      simp -dsimp -implicitDefEqProofs (disch := omega) [go_sem, -List.getD_eq_getElem?_getD, ite_yes, ht, hj0, hj1, ca, cb, gs, hfl, hfl2, s1, s2, List.set_set]
      refine AAny.one 2 15 (by kernel_rfl) (by kernel_rfl) (by kernel_rfl) ?_
      simp -dsimp -implicitDefEqProofs (disch := omega) [go_sem, -List.getD_eq_getElem?_getD, ite_yes, ht, hj0, hj1, ca, cb, gs, hfl, hfl2, s1, s2, List.set_set]
      first | refine AAt.of (SubH.nil) ?_ | (refine ⟨?_, AAt.of (SubH.nil) ?_⟩; · omega)
      refine AAny.takes (fuel := 1) (by kernel_rfl) (by kernel_rfl) [16] (by kernel_rfl) (by kernel_rfl) ?_
      simp -dsimp -implicitDefEqProofs (disch := omega) [go_sem, -List.getD_eq_getElem?_getD, ite_yes, ht, hj0, hj1, ca, cb, gs, hfl, hfl2, s1, s2, List.set_set]
      refine AAny.one 0 17 (by kernel_rfl) (by kernel_rfl) (by kernel_rfl) ?_
      simp -dsimp -implicitDefEqProofs (disch := omega) [go_sem, -List.getD_eq_getElem?_getD, ite_yes, ht, hj0, hj1, ca, cb, gs, hfl, hfl2, s1, s2, List.set_set]
      first | refine AAt.of (SubH.nil) ?_ | (refine ⟨?_, AAt.of (SubH.nil) ?_⟩; · omega)
      refine AAny.done (by kernel_rfl) ?_
      simp -dsimp -implicitDefEqProofs (disch := omega) [go_sem, -List.getD_eq_getElem?_getD, ite_yes, ht, hj0, hj1, ca, cb, gs, hfl, hfl2, s1, s2, List.set_set]
      exact LoopEnd.of j ⟨by omega, hpos⟩ (by omega) (weakS_setA (b := ⟨(midK lt l i j).flatMap akE, true, e, 3⟩) [] ht (wm_aks0 (hmM j)) rfl (by simp [s1, s2]) (by simp -dsimp -implicitDefEqProofs (disch := omega) [go_sem, -List.getD_eq_getElem?_getD, ite_yes, ht]))
    · simp -dsimp -implicitDefEqProofs (disch := omega) [go_sem, -List.getD_eq_getElem?_getD, ite_yes, ht, hj0, hj1, ca, cb, gs, hfl, hfl2, s1, s2, List.set_set]
      first | refine AAt.of (SubH.nil) ?_ | (refine ⟨?_, AAt.of (SubH.nil) ?_⟩; · omega)
      refine AAny.one 4 9 (by kernel_rfl) (by kernel_rfl) (by kernel_rfl) ?_
      simp -dsimp -implicitDefEqProofs (disch := omega) [go_sem, -List.getD_eq_getElem?_getD, ite_yes, ht, hj0, hj1, ca, cb, gs, hfl, hfl2, s1, s2, List.set_set]
      first | refine AAt.of (SubH.nil) ?_ | (refine ⟨?_, AAt.of (SubH.nil) ?_⟩; · omega)
      refine AAny.takes (fuel := 3) (by kernel_rfl) (by kernel_rfl) [14] (by kernel_rfl) (by kernel_rfl) ?_
      simp -dsimp -implicitDefEqProofs (disch := omega) [go_sem, -List.getD_eq_getElem?_getD, ite_yes, ht, hj0, hj1, ca, cb, gs, hfl, hfl2, s1, s2, List.set_set]
      refine AAny.one 2 15 (by kernel_rfl) (by kernel_rfl) (by kernel_rfl) ?_
      simp -dsimp -implicitDefEqProofs (disch := omega) [go_sem, -List.getD_eq_getElem?_getD, ite_yes, ht, hj0, hj1, ca, cb, gs, hfl, hfl2, s1, s2, List.set_set]
      first | refine AAt.of (SubH.nil) ?_ | (refine ⟨?_, AAt.of (SubH.nil) ?_⟩; · omega)
      refine AAny.takes (fuel := 1) (by kernel_rfl) (by kernel_rfl) [16] (by kernel_rfl) (by kernel_rfl) ?_
      simp -dsimp -implicitDefEqProofs (disch := omega) [go_sem, -List.getD_eq_getElem?_getD, ite_yes, ht, hj0, hj1, ca, cb, gs, hfl, hfl2, s1, s2, List.set_set]
      refine AAny.one 0 17 (by kernel_rfl) (by kernel_rfl) (by kernel_rfl) ?_
      simp -dsimp -implicitDefEqProofs (disch := omega) [go_sem, -List.getD_eq_getElem?_getD, ite_yes, ht, hj0, hj1, ca, cb, gs, hfl, hfl2, s1, s2, List.set_set]
      first | refine AAt.of (SubH.nil) ?_ | (refine ⟨?_, AAt.of (SubH.nil) ?_⟩; · omega)
      refine AAny.done (by kernel_rfl) ?_
      simp -dsimp -implicitDefEqProofs (disch := omega) [go_sem, -List.getD_eq_getElem?_getD, ite_yes, ht, hj0, hj1, ca, cb, gs, hfl, hfl2, s1, s2, List.set_set]
      exact LoopEnd.of j ⟨by omega, hpos⟩ (by omega) (weakS_setA (b := ⟨(midK lt l i j).flatMap akE, true, e, 3⟩) [] ht (wm_aks0 (hmM j)) rfl (by simp [s1, s2]) (by simp -dsimp -implicitDefEqProofs (disch := omega) [go_sem, -List.getD_eq_getElem?_getD, ite_yes, ht]))
  · rw [if_neg hxy] at hp
    have hc : ¬ r < 0 := fun h => hxy (hr.2 h)
    simp -dsimp -implicitDefEqProofs (disch := omega) [go_sem, -List.getD_eq_getElem?_getD, ite_yes, ht, hc]
    exact LoopEnd.of (i + 1) (by omega) (by omega) (weakS_setA (b := ⟨(outK lt l (i + 1)).flatMap akE, true, e, 3⟩) [] ht (wm_aks0 hmO) (by simp only [hn0, if_false]) (by rw [List.append_nil]; exact hset M (hend hp)) (by simp -dsimp -implicitDefEqProofs (disch := omega) [go_sem, -List.getD_eq_getElem?_getD, ite_yes, ht]))
theorem stableK_A (lt : Ak → Ak → Bool) (l : List Ak) (hl8 : l.length ≤ 8) (c e g : Nat) (H : Heap) (t : Nat) (hb : H.get t = some ⟨l.flatMap akE, true, e, 3⟩) (hA : ∀ r ∈ l, r.2.2.1 < H.length)
    (hC : ∀ G : Heap, (∀ s, s ≠ t → G.get s = H.get s) → G.length = H.length → ∀ x ∈ l, ∀ y ∈ l, ∃ r : Int, AFunC Try.prog g [.agg #[.int .i64 x.1, .int .i64 x.2.1, .slice (some ⟨x.2.2.1, 0, none⟩) x.2.2.2.2.length x.2.2.2.1], .agg #[.int .i64 y.1, .int .i64 y.2.1, .slice (some ⟨y.2.2.1, 0, none⟩) y.2.2.2.2.length y.2.2.2.1]] (roH G) (.int .i64 r) (roH G) ∧ (lt x y = true ↔ r < 0)) :
    AFunC Try.prog 31 [.slice (some ⟨t, 0, none⟩) l.length c, .int .i64 l.length, .func (.func g) #[] #[]] H (.tuple #[]) (H.set t (some ⟨(sortK lt l).flatMap akE, true, e, 3⟩)) := by
  refine AFunC.of_body Try.func31 (by kernel_rfl) rfl (by kernel_rfl) (by simp [Try.ntmps31]) ?_
  have ht := Heap.get_lt hb
  have h1 : ¬ (20 : Int) ≤ (l.length : Int) := by omega
  have h2 : ¬ (20 : Int) < (l.length : Int) := by omega
  have h1n : ¬ 20 ≤ l.length := by omega
  have h2n : ¬ 20 < l.length := by omega
  simp -dsimp -implicitDefEqProofs (disch := omega) [go_sem, -List.getD_eq_getElem?_getD, ite_yes, ht]
  refine ALoop.intro (ι := Unit) (fun _ => True) (fun _ => [(0, .slice (some ⟨t, 0, none⟩) l.length c), (1, .int .i64 l.length), (2, .func (.func g) #[] #[]), (6, .int .i64 20), (7, .int .i64 0), (8, .int .i64 20)]) (fun _ => H) (fun _ => 0) () trivial ?_ ?_
  · exact weakS_same (by simp -dsimp -implicitDefEqProofs (disch := omega) [go_sem, -List.getD_eq_getElem?_getD, ite_yes, ht])
  intro _ _
  simp -dsimp -implicitDefEqProofs (disch := omega) [go_sem, -List.getD_eq_getElem?_getD, ite_yes, h1, h1n, ht]
  refine ACall.of (insK_A lt l hl8 c e g H t hb hA hC) ?_
  simp -dsimp -implicitDefEqProofs (disch := omega) [go_sem, -List.getD_eq_getElem?_getD, ite_yes, ht]
  refine ALoop.intro (ι := Unit) (fun _ => True) (fun _ => [(1, .int .i64 l.length), (6, .int .i64 20)]) (fun _ => H.set t (some ⟨(sortK lt l).flatMap akE, true, e, 3⟩)) (fun _ => 0) () trivial ?_ ?_
  · exact weakS_setA (b := ⟨(sortK lt l).flatMap akE, true, e, 3⟩) [] ht (wm_aks0 fun r hr => hA r (ordK_mem (Nat.le_refl _) hr)) rfl (by rw [List.append_nil]) (by simp -dsimp -implicitDefEqProofs (disch := omega) [go_sem, -List.getD_eq_getElem?_getD, ite_yes, ht])
  intro _ _
  simp -dsimp -implicitDefEqProofs (disch := omega) [go_sem, -List.getD_eq_getElem?_getD, ite_yes, h2, h2n]
  exact fin_setA (b := ⟨(sortK lt l).flatMap akE, true, e, 3⟩) [] ht (wm_aks0 fun r hr => hA r (ordK_mem (Nat.le_refl _) hr)) rfl (by rw [List.append_nil]) ⟨_, rfl, trivial⟩
theorem sortStableK_A (lt : Ak → Ak → Bool) (l : List Ak) (hl8 : l.length ≤ 8) (c e g : Nat) (H : Heap) (t : Nat) (hb : H.get t = some ⟨l.flatMap akE, true, e, 3⟩) (hA : ∀ r ∈ l, r.2.2.1 < H.length)
    (hC : ∀ G : Heap, (∀ s, s ≠ t → G.get s = H.get s) → G.length = H.length → ∀ x ∈ l, ∀ y ∈ l, ∃ r : Int, AFunC Try.prog g [.agg #[.int .i64 x.1, .int .i64 x.2.1, .slice (some ⟨x.2.2.1, 0, none⟩) x.2.2.2.2.length x.2.2.2.1], .agg #[.int .i64 y.1, .int .i64 y.2.1, .slice (some ⟨y.2.2.1, 0, none⟩) y.2.2.2.2.length y.2.2.2.1]] (roH G) (.int .i64 r) (roH G) ∧ (lt x y = true ↔ r < 0)) :
    AFunC Try.prog 18 [.slice (some ⟨t, 0, none⟩) l.length c, .func (.func g) #[] #[]] H (.tuple #[]) (H.set t (some ⟨(sortK lt l).flatMap akE, true, e, 3⟩)) := by
  refine AFunC.of_body Try.func18 (by kernel_rfl) rfl (by kernel_rfl) (by simp [Try.ntmps18]) ?_
  have ht := Heap.get_lt hb
  simp -dsimp -implicitDefEqProofs (disch := omega) [go_sem, -List.getD_eq_getElem?_getD, ite_yes, ht]
  refine ACall.of (stableK_A lt l hl8 c e g H t hb hA hC) ?_
  simp -dsimp -implicitDefEqProofs (disch := omega) [go_sem, -List.getD_eq_getElem?_getD, ite_yes]
  exact fin_setA (b := ⟨(sortK lt l).flatMap akE, true, e, 3⟩) [] ht (wm_aks0 fun r hr => hA r (ordK_mem (Nat.le_refl _) hr)) rfl (by rw [List.append_nil]) ⟨_, rfl, trivial⟩
end Go.Proofs.Ytdbneadblnejgaa
/- Areas in order: the list, and the comparison. -/
namespace Go.Proofs.Ytdbneadblnejgaa
open Go.Am
set_option linter.unusedVariables false
set_option linter.unusedSimpArgs false
set_option maxRecDepth 100000
set_option maxHeartbeats 4000000
theorem wl_aks {R : List Ak} {m j : Nat} {js : List (Option Nat)} (hR : ∀ r ∈ R, r.2.2.1 < m) : WL (sg m js) (m + j) (R.flatMap akE) (R.flatMap akE) :=
  .inr (by rw [List.take_length]; exact wm_aks (n := m) (fun t ht => by simp only [sg, ht, if_true]) (by omega) hR)
/-- areas in a heap: their nights lie in blocks of their own -/
structure AksAt (H : Heap) (t : Nat) (R : List Ak) : Prop where
  sp : Sl akE H t R
  ns : ∀ r ∈ R, Sl nmE H r.2.2.1 r.2.2.2.2 ∧ r.2.2.2.2.length ≤ 1048577
theorem AksAt.app {H L : Heap} {t : Nat} {R : List Ak} (h : AksAt H t R) : AksAt (H ++ L) t R := ⟨h.sp.app, fun r hr => ⟨(h.ns r hr).1.app, (h.ns r hr).2⟩⟩
theorem akmem {R : List Ak} {k : Nat} (hk : k < R.length) : R.getD k akD ∈ R := by
  rw [List.getD_eq_getElem?_getD, List.getElem?_eq_getElem hk]; exact List.getElem_mem _
def okAk (r : Ak) : Bool := areaB r.1 r.2.1 r.2.2.2.2
def rankIx (R : List Ak) (i : Nat) : Bool := okAk (R.getD i akD) && (decide (i = 0) || decide ((R.getD (i - 1) akD).1 < (R.getD i akD).1))
def rankTo (R : List Ak) (k : Nat) : Prop := ∀ i, i < k → rankIx R i = true
instance (R : List Ak) (k : Nat) : Decidable (rankTo R k) := inferInstanceAs (Decidable (∀ i, i < k → _))
def rankB (R : List Ak) : Bool := decide (R.length ≤ 8) && decide (rankTo R R.length)
theorem rankTo.next {R : List Ak} {k : Nat} (h : rankTo R k) (h1 : rankIx R k = true) : rankTo R (k + 1) := fun i hi => by
  rcases Nat.lt_or_ge i k with h' | h'
  · exact h i h'
  · obtain rfl : i = k := by omega
    exact h1
theorem rankB_no {R : List Ak} {k : Nat} (hk : k < R.length) (h : rankIx R k = false) : rankB R = false := by
  unfold rankB
  rw [decide_eq_false (p := rankTo R R.length) (fun hh => by rw [hh k hk] at h; cases h), Bool.and_false]
theorem rankB_at {R : List Ak} (h : rankB R = true) : R.length ≤ 8 ∧ ∀ r ∈ R, AreaAt r.1 r.2.1 r.2.2.2.2 := by
  simp only [rankB, Bool.and_eq_true, decide_eq_true_eq] at h
  refine ⟨h.1, fun r hr => ?_⟩
  obtain ⟨i, hi, e⟩ := List.getElem_of_mem hr
  have := h.2 i hi
  simp only [rankIx, Bool.and_eq_true] at this
  have hg : R.getD i akD = r := by rw [List.getD_eq_getElem?_getD, List.getElem?_eq_getElem hi]; exact e
  rw [hg] at this
  exact area_at this.1
/-- what is lost in the last night -/
def lastN (r : Ak) : Int := lossN r.2.1 r.2.2.2.2 (r.2.2.2.2.length - 1)
def moreK (x y : Ak) : Bool := decide (lastN y * x.2.1 < lastN x * y.2.1)
abbrev akV (r : Ak) : Value := .agg #[.int .i64 r.1, .int .i64 r.2.1, .slice (some ⟨r.2.2.1, 0, none⟩) r.2.2.2.2.length r.2.2.2.1]
theorem rank1_A (x y : Ak) (hx : AreaAt x.1 x.2.1 x.2.2.2.2) (hy : AreaAt y.1 y.2.1 y.2.2.2.2) (H : Heap) (hS : Sl nmE H x.2.2.1 x.2.2.2.2) (hU : Sl nmE H y.2.2.1 y.2.2.2.2) :
    AFunC Try.prog 19 [akV x, akV y] H (.int .i64 (cmpI (lastN y * x.2.1) (lastN x * y.2.1))) H := by
  refine AFunC.of_body Try.func19 (by kernel_rfl) rfl (by kernel_rfl) (by simp [Try.ntmps19]) ?_
  obtain ⟨i1, h1, t1, c1, L1⟩ := x
  obtain ⟨i2, h2, t2, c2, L2⟩ := y
  simp only [akV] at *
  have ht := hS.lt
  have hu := hU.lt
  have n1 := hx.n
  have n2 := hy.n
  have r1 := loss_rng hx (k := L1.length - 1) (by omega)
  have r2 := loss_rng hy (k := L2.length - 1) (by omega)
  have e1 : ((L1.length : Int) - 1) = ((L1.length - 1 : Nat) : Int) := by omega
  have e2 : ((L2.length : Int) - 1) = ((L2.length - 1 : Nat) : Int) := by omega
  have hh1 := hx.h
  have hh2 := hy.h
  have A1 := fun G hS => lossOn_A i1 h1 L1 hx (L1.length - 1) (by omega) c1 G t1 hS
  have A2 := fun G hS => lossOn_A i2 h2 L2 hy (L2.length - 1) (by omega) c2 G t2 hS
  unfold lastN
  simp only at r1 r2 hh1 hh2 ⊢
  generalize lossN h1 L1 (L1.length - 1) = p1 at *
  generalize lossN h2 L2 (L2.length - 1) = p2 at *
  have m1 : 0 ≤ p2 * h1 := Int.mul_nonneg r2.1 (by omega)
  have m2 : p2 * h1 ≤ 1000000 * h1 := Int.mul_le_mul_of_nonneg_right r2.2 (by omega)
  have m3 : 0 ≤ p1 * h2 := Int.mul_nonneg r1.1 (by omega)
  have m4 : p1 * h2 ≤ 1000000 * h2 := Int.mul_le_mul_of_nonneg_right r1.2 (by omega)
  simp -dsimp -implicitDefEqProofs (disch := omega) [go_sem, -List.getD_eq_getElem?_getD, ite_yes, ht, hu]
  refine ADraw.quiet (by kernel_rfl) (by kernel_rfl) (by kernel_rfl) ?_
  simp -dsimp -implicitDefEqProofs (disch := omega) [go_sem, -List.getD_eq_getElem?_getD, ite_yes, ht, hu, e1, e2]
  refine ACallQ.of (A2 _ hU.app.ro) rfl ?_
  simp -dsimp -implicitDefEqProofs (disch := omega) [go_sem, -List.getD_eq_getElem?_getD, ite_yes, ht, hu, e1, e2]
  refine ACallQ.of (A1 _ hS.app.ro) rfl ?_
  simp -dsimp -implicitDefEqProofs (disch := omega) [go_sem, -List.getD_eq_getElem?_getD, ite_yes, ht, hu]
  refine ACallQ.of (compare_A _ _ _) rfl ?_
  simp -dsimp -implicitDefEqProofs (disch := omega) [go_sem, -List.getD_eq_getElem?_getD, ite_yes]
  exact fin_flat rfl rfl
theorem cmpI_more (x y : Ak) : moreK x y = true ↔ cmpI (lastN y * x.2.1) (lastN x * y.2.1) < 0 := by
  unfold moreK cmpI
  rw [decide_eq_true_eq]
  split
  · rename_i h; exact ⟨fun _ => by omega, fun _ => h⟩
  · rename_i h
    split
    · exact ⟨fun h' => absurd h' h, fun h' => by omega⟩
    · exact ⟨fun h' => absurd h' h, fun h' => by omega⟩
theorem l17More_A (x y : Ak) (hx : AreaAt x.1 x.2.1 x.2.2.2.2) (hy : AreaAt y.1 y.2.1 y.2.2.2.2) (H : Heap) (hS : Sl nmE H x.2.2.1 x.2.2.2.2) (hU : Sl nmE H y.2.2.1 y.2.2.2.2) :
    AFunC Try.prog 15 [akV x, akV y] H (.bool (moreK x y)) H := by
  refine AFunC.of_body Try.func15 (by kernel_rfl) rfl (by kernel_rfl) (by simp [Try.ntmps15]) ?_
  obtain ⟨i1, h1, t1, c1, L1⟩ := x
  obtain ⟨i2, h2, t2, c2, L2⟩ := y
  simp only [akV] at *
  have ht := hS.lt
  have hu := hU.lt
  have n1 := hx.n
  have n2 := hy.n
  have r1 := loss_rng hx (k := L1.length - 1) (by omega)
  have r2 := loss_rng hy (k := L2.length - 1) (by omega)
  have e1 : ((L1.length : Int) - 1) = ((L1.length - 1 : Nat) : Int) := by omega
  have e2 : ((L2.length : Int) - 1) = ((L2.length - 1 : Nat) : Int) := by omega
  have hh1 := hx.h
  have hh2 := hy.h
  have A1 := fun G hS => l17Lost_A i1 h1 L1 hx (L1.length - 1) (by omega) c1 G t1 hS
  have A2 := fun G hS => l17Lost_A i2 h2 L2 hy (L2.length - 1) (by omega) c2 G t2 hS
  unfold moreK lastN
  simp only at r1 r2 hh1 hh2 ⊢
  generalize lossN h1 L1 (L1.length - 1) = p1 at *
  generalize lossN h2 L2 (L2.length - 1) = p2 at *
  have m1 : 0 ≤ p2 * h1 := Int.mul_nonneg r2.1 (by omega)
  have m2 : p2 * h1 ≤ 1000000 * h1 := Int.mul_le_mul_of_nonneg_right r2.2 (by omega)
  have m3 : 0 ≤ p1 * h2 := Int.mul_nonneg r1.1 (by omega)
  have m4 : p1 * h2 ≤ 1000000 * h2 := Int.mul_le_mul_of_nonneg_right r1.2 (by omega)
  simp -dsimp -implicitDefEqProofs (disch := omega) [go_sem, -List.getD_eq_getElem?_getD, ite_yes, ht, hu]
  refine ADraw.quiet (by kernel_rfl) (by kernel_rfl) (by kernel_rfl) ?_
  simp -dsimp -implicitDefEqProofs (disch := omega) [go_sem, -List.getD_eq_getElem?_getD, ite_yes, ht, hu, e1, e2]
  refine ACallQ.of (A1 _ hS.app.ro) rfl ?_
  simp -dsimp -implicitDefEqProofs (disch := omega) [go_sem, -List.getD_eq_getElem?_getD, ite_yes, ht, hu, e1, e2]
  refine ACallQ.of (A2 _ hU.app.ro) rfl ?_
  simp -dsimp -implicitDefEqProofs (disch := omega) [go_sem, -List.getD_eq_getElem?_getD, ite_yes, ht, hu]
  exact fin_flat rfl rfl
theorem l17List_Ak (R : List Ak) (hl : R.length ≤ 1048577) (c : Nat) (H : Heap) (t : Nat) (hS : AksAt H t R) :
    AFunC Try.prog 14 [.slice (some ⟨t, 0, none⟩) R.length c] H (.bool (rankB R)) H := by
  refine AFunC.of_body Try.func14 (by kernel_rfl) rfl (by kernel_rfl) (by simp [Try.ntmps14]) ?_
  have ht := hS.sp.lt
  have cs := fun k hk => hS.sp.cells (s := 3) (fun _ => rfl) akD k hk
  have c0 := fun k hk => hS.sp.cell (s := 3) (fun _ => rfl) akD k 0 hk (by omega)
  simp only [akE, Nat.add_zero] at cs c0
  simp -dsimp -implicitDefEqProofs (disch := omega) [go_sem, -List.getD_eq_getElem?_getD, ite_yes]
  refine ALoop.intro (ι := Nat) (fun k => k ≤ R.length ∧ rankTo R k) (fun k => [(0, .slice (some ⟨t, 0, none⟩) R.length c), (3, .int .i64 k)]) (fun _ => H) (fun k => R.length - k) 0 ⟨by omega, fun i hi => by omega⟩ ?_ ?_
  · exact weakS_same (by simp -dsimp -implicitDefEqProofs (disch := omega) [go_sem, -List.getD_eq_getElem?_getD, ite_yes, ht])
  rintro k ⟨hk, hf⟩
  by_cases hlt : k < R.length
  rotate_left
  · obtain rfl : k = R.length := by omega
    simp -dsimp -implicitDefEqProofs (disch := omega) [go_sem, -List.getD_eq_getElem?_getD, ite_yes, hlt]
    exact fin_flat0 rfl (by rw [rankB, decide_eq_true hf, Bool.and_true]; congr 1; rw [decide_eq_decide]; omega)
  have hlti : (k : Int) < (R.length : Int) := by omega
  have k1 := cs k hlt
  have k0 := c0 k hlt
  obtain ⟨hn, hnl⟩ := hS.ns _ (akmem hlt)
  have hix : rankIx R k = (okAk (R.getD k akD) && (decide (k = 0) || decide ((R.getD (k - 1) akD).1 < (R.getD k akD).1))) := rfl
  have kp := fun (hk0 : 0 < k) => c0 (k - 1) (by omega)
  generalize R.getD k akD = r at *
  have A := l17Good_A r.1 r.2.1 r.2.2.2.2 hnl r.2.2.2.1 (roH H) r.2.2.1 hn.ro
  have hrt := hn.lt
  simp -dsimp -implicitDefEqProofs (disch := omega) [go_sem, -List.getD_eq_getElem?_getD, ite_yes, hlt, hlti]
  refine ADraw.quiet (by kernel_rfl) (by kernel_rfl) (by kernel_rfl) ?_
  simp -dsimp -implicitDefEqProofs (disch := omega) [go_sem, -List.getD_eq_getElem?_getD, ite_yes, hlt, hlti, k1, ht, hrt]
  refine ACallQ.of A rfl ?_
  cases hv : areaB r.1 r.2.1 r.2.2.2.2
  · simp -dsimp -implicitDefEqProofs (disch := omega) [go_sem, -List.getD_eq_getElem?_getD, ite_yes]
    exact fin_flat0 rfl (by rw [rankB_no hlt (by rw [hix, okAk, hv]; rfl)])
  rcases Nat.eq_zero_or_pos k with h0 | h0
  · subst h0
    simp -dsimp -implicitDefEqProofs (disch := omega) [go_sem, -List.getD_eq_getElem?_getD, ite_yes]
    exact LoopEnd.of 1 ⟨by omega, hf.next (by rw [hix, okAk, hv]; rfl)⟩ (by omega) (weakS_same (by simp -dsimp -implicitDefEqProofs (disch := omega) [go_sem, -List.getD_eq_getElem?_getD, ite_yes, ht]))
  have h0i : (0 : Int) < (k : Int) := by omega
  obtain ⟨j, rfl⟩ : ∃ j, k = j + 1 := ⟨k - 1, by omega⟩
  have kp := kp h0
  rw [Nat.add_sub_cancel] at kp hix
  have hj : j < R.length := by omega
  have hji : (j : Int) < (R.length : Int) := by omega
  by_cases hc : r.1 ≤ (R.getD j akD).1
  · generalize R.getD j akD = q at *
    simp -dsimp -implicitDefEqProofs (disch := omega) [go_sem, -List.getD_eq_getElem?_getD, ite_yes, hlt, hlti, h0, h0i, kp, k0, ht, hj, hji, hc]
    exact fin_flat0 rfl (by rw [rankB_no hlt (by rw [hix, decide_eq_false (p := q.1 < r.1) (by omega)]; simp)])
  · have hix' : rankIx R (j + 1) = true := by rw [hix, okAk, hv, decide_eq_true (p := (R.getD j akD).1 < r.1) (by omega)]; simp
    generalize R.getD j akD = q at *
    simp -dsimp -implicitDefEqProofs (disch := omega) [go_sem, -List.getD_eq_getElem?_getD, ite_yes, hlt, hlti, h0, h0i, kp, k0, ht, hj, hji, hc]
    exact LoopEnd.of (j + 1 + 1) ⟨by omega, hf.next hix'⟩ (by omega) (weakS_same (by simp -dsimp -implicitDefEqProofs (disch := omega) [go_sem, -List.getD_eq_getElem?_getD, ite_yes, ht]))
end Go.Proofs.Ytdbneadblnejgaa
/- Lists of lists of numbers in a heap: a spine that holds addresses of rows. -/
namespace Go.Am
set_option linter.unusedVariables false
theorem wmp_any {n m : Nat} {σ : Sig} (hσ : ∀ t, t < n → σ t = some t) (h : n ≤ m) {v w : Value} (hv : WMP (sg n []) n v w) : WMP σ m v w := by
  cases v with
  | pointer a =>
    cases a with
    | none => exact hv.elim
    | some ad =>
      obtain ⟨h1, s, h2, h3⟩ := hv
      have h4 : ad.block < m := by omega
      have : s = ad.block := by simp [sg, h1] at h2; exact h2.symm
      subst this
      exact ⟨h4, _, hσ _ h1, h3⟩
  | _ => exact hv.elim
theorem wm_any {n m : Nat} {σ : Sig} (hσ : ∀ t, t < n → σ t = some t) (h : n ≤ m) {v w : Value} (hv : WM (sg n []) n v w) : WM σ m v w := by
  cases v with
  | pointer a =>
    cases a with
    | none => exact hv
    | some ad =>
      obtain ⟨h1, s, h2, h3⟩ := hv
      have h4 : ad.block < m := by omega
      have : s = ad.block := by simp [sg, h1] at h2; exact h2.symm
      subst this
      exact ⟨h4, _, hσ _ h1, h3⟩
  | slice a k c =>
    cases a with
    | none => exact hv
    | some ad =>
      obtain ⟨h1, hv⟩ := hv
      have h4 : ad.block < m := by omega
      refine ⟨h4, ?_⟩
      rcases hv with ⟨s, c0, h2, h3⟩ | hv
      · have : s = ad.block := by simp [sg, h1] at h2; exact h2.symm
        subst this
        exact .inl ⟨_, c0, hσ _ h1, h3⟩
      · exact absurd hv.1 (by simp [sg, h1])
  | func fn first cap =>
    obtain ⟨cap', h1, h2⟩ := hv
    exact ⟨cap', h1, h2.mono fun x y => wmp_any hσ h⟩
  | _ => exact hv
theorem VK.mk' {H K L L' : Heap} (h : VK H K) (js : List (Option Nat)) (hj : jsOk js = true) (hw : wkL (sg K.length js) (K.length + L'.length) L L' js) : Weak H (sg K.length js) (K ++ L') (K ++ L) := by
  have w := weak_mk js hj hw
  have hl := h.1
  have hs : ∀ t, t < K.length → sg K.length js t = some t := fun t ht => w.fix_ t ht
  refine ⟨Nat.le_trans hl w.len, fun t ht => w.fix_ t (by omega), fun t b' hb => ?_, w.inj⟩
  rcases w.blk t b' hb with ⟨h1, h2, h3⟩ | h2 | h3
  · rcases h.2 t b' h3 with ⟨g1, g2⟩ | g1
    · exact .inl ⟨g1, h2, g2⟩
    · refine .inr (.inr ⟨t, b', b'.xs.length, hs t h1, h2, rfl, rfl, id, ?_⟩)
      rw [List.take_length]
      exact g1.mono fun x y => wm_any hs (by simp)
  · exact .inr (.inl h2)
  · exact .inr (.inr h3)
theorem weakS_vmk {H K L L' : Heap} {fr fr' : Fr} (h : VK H K) (js : List (Option Nat)) (hj : jsOk js = true) (hw : wkL (sg K.length js) (K.length + L'.length) L L' js) (hf : FrW (sg K.length js) (K.length + L'.length) fr' fr) : WeakS H fr' (K ++ L') fr (K ++ L) :=
  ⟨_, h.mk' js hj hw, by simpa using hf⟩
theorem fin_vmk {H K L L' : Heap} {v vf : Value} (h : VK H K) (js : List (Option Nat)) (hj : jsOk js = true) (hw : wkL (sg K.length js) (K.length + L'.length) L L' js) (hf : WS (sg K.length js) (K.length + L'.length) v vf) : WeakV H v (K ++ L') vf (K ++ L) :=
  ⟨_, h.mk' js hj hw, by simpa using hf⟩
/-- what was made behind the caller's blocks is dropped -/
theorem fin_kq {H G : Heap} {v vf : Value} (h : ∀ t, t < H.length → G.get t = H.get t) (hf : WS (sg H.length []) H.length v vf) : WeakV H v H vf G := by
  refine ⟨sg H.length [], ⟨Nat.le_refl _, fun t ht => by simp only [sg, ht, if_true], fun t b' hb => ?_, fun t t' s b b' hne h1 h2 => ?_⟩, hf⟩
  · have ht := Heap.get_lt hb
    exact .inl ⟨ht, (h t ht).trans hb, hb⟩
  · have e : ∀ t s, sg H.length [] t = some s → s = t := by
      intro t s h
      unfold sg at h
      split at h
      · injection h with h; exact h.symm
      · simp at h
    exact absurd ((e _ _ h1).symm.trans (e _ _ h2)) hne
end Go.Am
namespace Go.Proofs.Ytdbneadblnejgaa
open Go.Am
set_option linter.unusedVariables false
set_option linter.unusedSimpArgs false
set_option maxRecDepth 100000
/-- a row: where it lies, its capacity as it is told, its numbers -/
abbrev Rw := Nat × Nat × List Int
def rwE (r : Rw) : List Value := [.slice (some ⟨r.1, 0, none⟩) r.2.2.length r.2.1]
abbrev rw0 : Rw := (0, 0, [])
theorem rwE_length (R : List Rw) : (R.flatMap rwE).length = R.length := by
  rw [flatMap_length rwE 1 (fun _ => rfl)]; omega
theorem rwE_snoc (R : List Rw) (r : Rw) : (R ++ [r]).flatMap rwE = R.flatMap rwE ++ rwE r := by rw [List.flatMap_append]; simp
structure RowsAt (H : Heap) (b0 u : Nat) (R : List Rw) : Prop where
  sp : H.get u = some ⟨R.flatMap rwE, true, 24, 1⟩
  lo : b0 ≤ u
  row : ∀ r ∈ R, b0 ≤ r.1 ∧ r.1 ≠ u ∧ H.get r.1 = some ⟨r.2.2.flatMap nmE, true, 3, 1⟩
  dif : (R.map (·.1)).Nodup
theorem RowsAt.nil {H : Heap} {b0 u : Nat} (h : H.get u = some ⟨[], true, 24, 1⟩) (hb : b0 ≤ u) : RowsAt H b0 u [] := ⟨h, hb, fun r hr => absurd hr (by simp), by simp⟩
theorem RowsAt.le {H : Heap} {b0 b1 u : Nat} {R : List Rw} (h : RowsAt H b0 u R) (hb : b1 ≤ b0) : RowsAt H b1 u R :=
  ⟨h.sp, Nat.le_trans hb h.lo, fun r hr => ⟨Nat.le_trans hb (h.row r hr).1, (h.row r hr).2⟩, h.dif⟩
/-- another heap that says the same of the blocks from b0 on -/
theorem RowsAt.of {H G : Heap} {b0 u : Nat} {R : List Rw} (h : RowsAt H b0 u R) (hk : ∀ t, b0 ≤ t → t < H.length → G.get t = H.get t) : RowsAt G b0 u R :=
  ⟨(hk _ h.lo (Heap.get_lt h.sp)).trans h.sp, h.lo, fun r hr => ⟨(h.row r hr).1, (h.row r hr).2.1, (hk _ (h.row r hr).1 (Heap.get_lt (h.row r hr).2.2)).trans (h.row r hr).2.2⟩, h.dif⟩
theorem RowsAt.kq {H G : Heap} {b0 u : Nat} {R : List Rw} (h : RowsAt H b0 u R) (k : KQ H G) : RowsAt G b0 u R := h.of fun t _ ht => k.2 t ht
theorem RowsAt.sl {H : Heap} {b0 u : Nat} {R : List Rw} (h : RowsAt H b0 u R) : Sl rwE H u R := ⟨_, [], h.sp, by simp⟩
theorem RowsAt.lt {H : Heap} {b0 u : Nat} {R : List Rw} (h : RowsAt H b0 u R) : u < H.length := Heap.get_lt h.sp
theorem getD_mem {α : Type} {d : α} {R : List α} {k : Nat} (hk : k < R.length) : R.getD k d ∈ R := by
  rw [List.getD_eq_getElem?_getD, List.getElem?_eq_getElem hk]; exact List.getElem_mem _
theorem RowsAt.at {H : Heap} {b0 u : Nat} {R : List Rw} (h : RowsAt H b0 u R) {k : Nat} (hk : k < R.length) : Sl nmE H (R.getD k rw0).1 (R.getD k rw0).2.2 :=
  ⟨_, [], (h.row _ (getD_mem hk)).2.2, by simp⟩
theorem RowsAt.rlt {H : Heap} {b0 u : Nat} {R : List Rw} (h : RowsAt H b0 u R) {r : Rw} (hr : r ∈ R) : r.1 < H.length := Heap.get_lt (h.row r hr).2.2
theorem get_unset {H : Heap} {t u : Nat} (h : t ≠ u) : Heap.get (H.set u none) t = Heap.get H t := Heap.get_set_ne h
theorem cells_of {H G : Heap} {t o n : Nat} (h : G.get t = H.get t) : aCells G ⟨t, o, none⟩ n = aCells H ⟨t, o, none⟩ n := by
  rw [aCells_eq, aCells_eq, h]
theorem _root_.Go.Am.VK.unset {H K : Heap} {u : Nat} (h : VK H K) : VK H (K.set u none) := by
  refine ⟨by simpa using h.1, fun t b hb => ?_⟩
  rw [Heap.get_set] at hb
  split at hb
  · split at hb <;> cases hb
  · simpa using h.2 t b hb
/-- a row more: the row and the new spine lie behind, the old spine is no more -/
theorem RowsAt.snoc {H : Heap} {b0 u c : Nat} {R : List Rw} {l : List Int} (h : RowsAt H b0 u R) (hb : b0 ≤ H.length) : RowsAt (H.set u none ++ [some ⟨l.flatMap nmE, true, 3, 1⟩, some ⟨(R ++ [(H.length, c, l)]).flatMap rwE, true, 24, 1⟩]) b0 (H.length + 1) (R ++ [(H.length, c, l)]) := by
  have hl : (H.set u none).length = H.length := by simp
  refine ⟨by rw [← hl]; exact (Heap.get_len_add _ _ 1).trans rfl, by omega, fun r hr => ?_, ?_⟩
  · rcases List.mem_append.1 hr with hr | hr
    · have h1 := h.row r hr
      have h2 := h.rlt hr
      exact ⟨h1.1, by omega, (Heap.get_append_left (by rw [hl]; exact h2)).trans ((get_unset h1.2.1).trans h1.2.2)⟩
    · rw [List.mem_singleton] at hr
      subst hr
      refine ⟨hb, by show H.length ≠ H.length + 1; omega, ?_⟩
      show Heap.get _ H.length = _
      rw [← hl]
      exact (Heap.get_len_add _ _ 0).trans rfl
  · rw [List.map_append, List.nodup_append]
    refine ⟨h.dif, by simp, fun a ha b hb e => ?_⟩
    obtain ⟨r, hr, rfl⟩ := List.mem_map.1 ha
    have h2 := h.rlt hr
    simp only [List.map_cons, List.map_nil, List.mem_singleton] at hb
    omega
/-- the spine says of its addresses what it says -/
theorem wm_rows {R : List Rw} {n m : Nat} {σ : Sig} (hσ : ∀ t, t < n → σ t = some t) (h : n ≤ m) (hR : ∀ r ∈ R, r.1 < n) : L2 (WM σ m) (R.flatMap rwE) (R.flatMap rwE) := by
  refine L2.refl fun x hx => ?_
  obtain ⟨r, hr, hx⟩ := List.mem_flatMap.1 hx
  rw [rwE, List.mem_singleton] at hx
  subst hx
  have := hR r hr
  exact ⟨by show r.1 < m; omega, .inl ⟨r.1, r.2.1, hσ _ this, rfl⟩⟩
theorem vk_rows {H K : Heap} {b0 u c : Nat} {R : List Rw} {l : List Int} (h : VK H K) (hR : RowsAt K b0 u R) : VK H (K.set u none ++ [some ⟨l.flatMap nmE, true, 3, 1⟩, some ⟨(R ++ [(K.length, c, l)]).flatMap rwE, true, 24, 1⟩]) := by
  have hl : (K.set u none).length = K.length := by simp
  have h1 := VK.snoc (K := K.set u none) (b := ⟨l.flatMap nmE, true, 3, 1⟩) (L2.refl fun x hx => WM_flat (List.all_eq_true.1 (nmE_flat _) x hx))
  have h2 := VK.snoc (K := K.set u none ++ [some ⟨l.flatMap nmE, true, 3, 1⟩]) (b := ⟨(R ++ [(K.length, c, l)]).flatMap rwE, true, 24, 1⟩)
    (wm_rows (n := K.length + 2) (fun t ht => by simp [sg]; omega) (by simp) fun r hr => by
      rcases List.mem_append.1 hr with hr | hr
      · have := hR.rlt hr; omega
      · rw [List.mem_singleton] at hr; subst hr; simp only; omega)
  have := (h.unset.trans h1).trans h2
  rwa [List.append_assoc] at this
end Go.Proofs.Ytdbneadblnejgaa
/- Helpers of the laws on lists of areas. -/
namespace Go.Proofs.Ytdbneadblnejgaa
open Go.Am
set_option linter.unusedVariables false
set_option linter.unusedSimpArgs false
set_option maxRecDepth 100000
set_option maxHeartbeats 4000000
/-- how many nights the first k areas have -/
def nsum (R : List Ak) : Nat → Nat
  | 0 => 0
  | k + 1 => nsum R k + (R.getD k akD).2.2.2.2.length
/-- areas in the caller's memory -/
structure AksIn (H : Heap) (t : Nat) (R : List Ak) : Prop where
  sp : Sl akE H t R
  ns : ∀ r ∈ R, Sl nmE H r.2.2.1 r.2.2.2.2
theorem AksIn.app {H L : Heap} {t : Nat} {R : List Ak} (h : AksIn H t R) : AksIn (H ++ L) t R := ⟨h.sp.app, fun r hr => (h.ns r hr).app⟩
theorem AksIn.kq {H G : Heap} {t : Nat} {R : List Ak} (h : AksIn H t R) (q : KQ H G) : AksIn G t R := ⟨q.sl h.sp, fun r hr => q.sl (h.ns r hr)⟩
theorem nsum_le {R : List Ak} {k : Nat} (hk : k < R.length) : ∀ n, k < n → (R.getD k akD).2.2.2.2.length ≤ nsum R n
  | 0, h => by omega
  | n + 1, h => by
    rcases Nat.lt_or_ge k n with h' | h'
    · have := nsum_le hk n h'
      rw [nsum]; omega
    · obtain rfl : k = n := by omega
      rw [nsum]; omega
theorem ak_small {R : List Ak} {N : Nat} (h : nsum R R.length ≤ N) : ∀ r ∈ R, r.2.2.2.2.length ≤ N := fun r hr => by
  obtain ⟨i, hi, e⟩ := List.getElem_of_mem hr
  have := nsum_le hi R.length hi
  rw [List.getD_eq_getElem?_getD, List.getElem?_eq_getElem hi] at this
  simp only [Option.getD_some, e] at this
  omega
theorem szArea_A (id ho : Int) (m c : Nat) (hm : (m : Int) ≤ 9223372036854775807) (left : Int) (h0 : 0 ≤ left) (h1 : left ≤ 9223372036854775807) (t : Nat) (H : Heap) : AFunC Try.prog 13 [areaV id ho t m c, .int .i64 left] H (.int .i64 (szNm m left)) H := by
  refine AFunC.of_body Try.func13 (by kernel_rfl) rfl (by kernel_rfl) (by simp [Try.ntmps13]) ?_
  simp -dsimp -implicitDefEqProofs (disch := omega) [go_sem, -List.getD_eq_getElem?_getD, ite_yes]
  refine ACall.of (szNm_A m c hm left h0 h1 t _) ?_
  simp -dsimp -implicitDefEqProofs (disch := omega) [go_sem, -List.getD_eq_getElem?_getD, ite_yes]
  refine AIf.of (fun h => ?_) (fun h => ?_)
  · simp -dsimp -implicitDefEqProofs (disch := omega) [go_sem, -List.getD_eq_getElem?_getD, ite_yes]
    exact fin_flat rfl (by simp at h; unfold szNm at h ⊢; split at h <;> simp_all <;> omega)
  · simp -dsimp -implicitDefEqProofs (disch := omega) [go_sem, -List.getD_eq_getElem?_getD, ite_yes]
    exact fin_flat rfl rfl
def PSz (H : Heap) (R : List Ak) (v : Value) (G : Heap) : Prop := ∃ x : Int, v = .int .i64 x ∧ H = G ∧ (0 ≤ x → R.length + nsum R R.length ≤ 1048576)
theorem szAks_R (R : List Ak) (hm : (R.length : Int) ≤ 9223372036854775807) (hn : ∀ r ∈ R, (r.2.2.2.2.length : Int) ≤ 9223372036854775807) (c : Nat) (H : Heap) (t : Nat) (hS : Sl akE H t R) :
    AFunR Try.prog 4 [.slice (some ⟨t, 0, none⟩) R.length c, .int .i64 1048576] H (PSz H R) := by
  refine AFunR.of_body Try.func4 (by kernel_rfl) rfl (by kernel_rfl) (by simp [Try.ntmps4]) ?_
  have ht := hS.lt
  have cs := fun k hk => hS.cells (s := 3) (fun _ => rfl) akD k hk
  simp only [akE] at cs
  simp -dsimp -implicitDefEqProofs (disch := omega) [go_sem, -List.getD_eq_getElem?_getD, ite_yes, ht]
  refine AIf.of (fun w => ?_) (fun w => ?_)
  · simp -dsimp -implicitDefEqProofs (disch := omega) [go_sem, -List.getD_eq_getElem?_getD, ite_yes, ht]
    exact EndR.of (.int .i64 (-1)) H ⟨-1, rfl, rfl, fun h => absurd h (by omega)⟩ (fin_flat0 rfl rfl)
  simp -dsimp -implicitDefEqProofs (disch := omega) [go_sem, -List.getD_eq_getElem?_getD, ite_yes, ht]
  simp only [Bool.not_eq_true', decide_eq_false_iff_not, decide_eq_true_eq, Bool.not_eq_true] at w
  refine ALoop.intro (ι := Nat) (fun k => k ≤ R.length ∧ R.length + nsum R k ≤ 1048576) (fun k => [(0, .slice (some ⟨t, 0, none⟩) R.length c), (1, .int .i64 (1048576 - (R.length : Int) - (nsum R k : Int))), (5, .int .i64 k)]) (fun _ => H) (fun k => R.length - k) 0 ⟨by omega, by simp only [nsum]; omega⟩ ?_ ?_
  · exact weakS_same (by simp -dsimp -implicitDefEqProofs (disch := omega) [go_sem, -List.getD_eq_getElem?_getD, ite_yes, ht, nsum] <;> omega)
  rintro k ⟨hk, hk2⟩
  by_cases hlt : k < R.length
  · have hlti : (k : Int) < (R.length : Int) := by omega
    have c1 := cs k hlt
    have hb := hn _ (akmem hlt)
    have e : nsum R (k + 1) = nsum R k + (R.getD k akD).2.2.2.2.length := rfl
    generalize R.getD k akD = x at *
    simp -dsimp -implicitDefEqProofs (disch := omega) [go_sem, -List.getD_eq_getElem?_getD, ite_yes, ht, hlt, hlti, c1]
    refine ACall.of (szArea_A x.1 x.2.1 _ _ hb _ (by omega) (by omega) _ _) ?_
    simp -dsimp -implicitDefEqProofs (disch := omega) [go_sem, -List.getD_eq_getElem?_getD, ite_yes, ht, hlt, hlti]
    refine AIf.of (fun w2 => ?_) (fun w2 => ?_)
    · simp -dsimp -implicitDefEqProofs (disch := omega) [go_sem, -List.getD_eq_getElem?_getD, ite_yes, ht, hlt, hlti]
      exact EndR.of (.int .i64 (-1)) H ⟨-1, rfl, rfl, fun h => absurd h (by omega)⟩ (fin_flat0 rfl rfl)
    · simp -dsimp -implicitDefEqProofs (disch := omega) [go_sem, -List.getD_eq_getElem?_getD, ite_yes, ht, hlt, hlti]
      simp only [Bool.not_eq_true', decide_eq_false_iff_not, decide_eq_true_eq, Bool.not_eq_true] at w2
      have w3 : ¬ (1048576 - (R.length : Int) - (nsum R k : Int)) - (x.2.2.2.2.length : Int) < 0 := fun h => w2 (by unfold szNm; rw [if_pos h]; omega)
      refine LoopEnd.of (k + 1) ⟨by omega, by omega⟩ (by omega) (weakS_same ?_)
      have e2 : szNm (x.2.2.2.2.length : Int) (1048576 - (R.length : Int) - (nsum R k : Int)) = 1048576 - (R.length : Int) - (nsum R (k + 1) : Int) := by
        unfold szNm; rw [if_neg w3, e]; omega
      simp -dsimp -implicitDefEqProofs (disch := omega) [go_sem, -List.getD_eq_getElem?_getD, ite_yes, ht, e2]
  · have hlti : ¬ (k : Int) < (R.length : Int) := by omega
    obtain rfl : k = R.length := by omega
    simp -dsimp -implicitDefEqProofs (disch := omega) [go_sem, -List.getD_eq_getElem?_getD, ite_yes, ht, hlti]
    exact EndR.of (.int .i64 _) H ⟨_, rfl, rfl, fun _ => hk2⟩ (fin_flat0 rfl rfl)
theorem toArea_A (id ho : Int) (l : List Int) (hl : l.length ≤ 1048577) (c : Nat) (H : Heap) (t : Nat) (hS : Sl nmE H t l) :
    AFunC Try.prog 16 [areaV id ho t l.length c] H (areaV id ho H.length l.length l.length) (H ++ [some ⟨l.flatMap nmE, true, 3, 1⟩]) := by
  refine AFunC.of_body Try.func16 (by kernel_rfl) rfl (by kernel_rfl) (by simp [Try.ntmps16]) ?_
  have ht := hS.lt
  simp -dsimp -implicitDefEqProofs (disch := omega) [go_sem, -List.getD_eq_getElem?_getD, ite_yes, ht]
  refine ACall.of (toNmS_A l hl c _ t hS.app) ?_
  simp -dsimp -implicitDefEqProofs (disch := omega) [go_sem, -List.getD_eq_getElem?_getD, ite_yes, ht]
  refine fin_list [some 3] rfl ?_ (by simp -dsimp -implicitDefEqProofs (disch := omega) [go_sem, -List.getD_eq_getElem?_getD, ite_yes, ht])
  simp -dsimp -implicitDefEqProofs (disch := omega) [go_sem, -List.getD_eq_getElem?_getD, ite_yes]
  exact .inl ⟨rfl, nmE_flat _⟩
theorem eqArea_A (id ho : Int) (l : List Int) (hl : l.length ≤ 1048577) (c d : Nat) (H : Heap) (t u : Nat) (hS : Sl nmE H t l) (hU : Sl nmE H u l) :
    AFunC Try.prog 22 [areaV id ho t l.length c, areaV id ho u l.length d] H (.bool true) H := by
  refine AFunC.of_body Try.func22 (by kernel_rfl) rfl (by kernel_rfl) (by simp [Try.ntmps22]) ?_
  have ht := hS.lt
  have hu := hU.lt
  simp -dsimp -implicitDefEqProofs (disch := omega) [go_sem, -List.getD_eq_getElem?_getD, ite_yes, ht, hu]
  refine ACall.of (eqNmS_A l l hl hl c d _ t u hS.app hU.app) ?_
  simp -dsimp -implicitDefEqProofs (disch := omega) [go_sem, -List.getD_eq_getElem?_getD, ite_yes]
  exact fin_flat rfl rfl
/-- an area without its address -/
abbrev bareK (r : Ak) : Ak := (r.1, r.2.1, 0, 0, r.2.2.2.2)
theorem eqAks_A (R S : List Ak) (e : R.map bareK = S.map bareK) (hl : R.length ≤ 1048577) (c d : Nat) (H : Heap) (t u : Nat) (hR : AksAt H t R) (hS : AksAt H u S) :
    AFunC Try.prog 9 [.slice (some ⟨t, 0, none⟩) R.length c, .slice (some ⟨u, 0, none⟩) S.length d] H (.bool true) H := by
  refine AFunC.of_body Try.func9 (by kernel_rfl) rfl (by kernel_rfl) (by simp [Try.ntmps9]) ?_
  have ht := hR.sp.lt
  have hu := hS.sp.lt
  have hlen : S.length = R.length := by
    have := congrArg List.length e
    simpa using this.symm
  have cs := fun k hk => hR.sp.cells (s := 3) (fun _ => rfl) akD k hk
  have cu := fun k hk => hS.sp.cells (s := 3) (fun _ => rfl) akD k hk
  simp only [akE] at cs cu
  rw [hlen] at cu ⊢
  simp -dsimp -implicitDefEqProofs (disch := omega) [go_sem, -List.getD_eq_getElem?_getD, ite_yes]
  refine ALoop.intro (ι := Nat) (fun k => k ≤ R.length) (fun k => [(0, .slice (some ⟨t, 0, none⟩) R.length c), (1, .slice (some ⟨u, 0, none⟩) R.length d), (5, .int .i64 k)]) (fun _ => H) (fun k => R.length - k) 0 (by omega) ?_ ?_
  · exact weakS_same (by simp -dsimp -implicitDefEqProofs (disch := omega) [go_sem, -List.getD_eq_getElem?_getD, ite_yes, ht, hu])
  · intro k hk
    by_cases hlt : k < R.length
    · have hlti : (k : Int) < (R.length : Int) := by omega
      have c1 := cs k hlt
      have c2 := cu k hlt
      have s1 := hR.ns _ (akmem (k := k) hlt)
      have s2 := hS.ns _ (akmem (k := k) (by omega))
      have e1 : bareK (R.getD k akD) = bareK (S.getD k akD) := by
        have e1 : (R.map bareK).getD k akD = (S.map bareK).getD k akD := by rw [e]
        simp only [List.getD_eq_getElem?_getD, List.getElem?_map, List.getElem?_eq_getElem hlt, List.getElem?_eq_getElem (show k < S.length by omega), Option.map_some, Option.getD_some] at e1 ⊢
        exact e1
      generalize S.getD k akD = y at *
      generalize R.getD k akD = x at *
      obtain ⟨i1, h1, t1, d1, l1⟩ := x
      obtain ⟨i2, h2, t2, d2, l2⟩ := y
      simp only [bareK, Prod.mk.injEq, true_and] at e1
      obtain ⟨rfl, rfl, rfl⟩ := e1
      simp only at c1 c2 s1 s2
      have hx := s1.1.lt
      have hy := s2.1.lt
      simp -dsimp -implicitDefEqProofs (disch := omega) [go_sem, -List.getD_eq_getElem?_getD, ite_yes, hlt, hlti]
      refine ADraw.quiet (by kernel_rfl) (by kernel_rfl) (by kernel_rfl) ?_
      simp -dsimp -implicitDefEqProofs (disch := omega) [go_sem, -List.getD_eq_getElem?_getD, ite_yes, hlt, hlti, c1, c2, hx, hy]
      refine ACallQ.of (eqArea_A i1 h1 l1 s1.2 _ _ _ _ _ s1.1.ro s2.1.ro) rfl ?_
      simp -dsimp -implicitDefEqProofs (disch := omega) [go_sem, -List.getD_eq_getElem?_getD, ite_yes, hlt, hlti]
      exact LoopEnd.of (k + 1) (by omega) (by omega) (weakS_same (by simp -dsimp -implicitDefEqProofs (disch := omega) [go_sem, -List.getD_eq_getElem?_getD, ite_yes, ht, hu]))
    · have hlti : ¬ (k : Int) < (R.length : Int) := by omega
      simp -dsimp -implicitDefEqProofs (disch := omega) [go_sem, -List.getD_eq_getElem?_getD, ite_yes, hlt, hlti]
      exact fin_flat0 rfl rfl
end Go.Proofs.Ytdbneadblnejgaa
/- A list of areas is copied, and marked. -/
namespace Go.Proofs.Ytdbneadblnejgaa
open Go.Am
set_option linter.unusedVariables false
set_option linter.unusedSimpArgs false
set_option maxRecDepth 100000
set_option maxHeartbeats 4000000
abbrev zsA : List Value := [.int .i64 0, .int .i64 0, .slice none 0 0]
/-- the first areas of n, behind them zeros -/
def xsT (D : List Ak) (n : Nat) : List Value := D.flatMap akE ++ (List.replicate (n - D.length) zsA).flatten
theorem xsT_length {D : List Ak} {n : Nat} (h : D.length ≤ n) : (xsT D n).length = n * 3 := by
  unfold xsT
  rw [List.length_append, akE_length, flatten_rep_length]
  simp only [List.length_cons, List.length_nil]
  omega
theorem xsT_all (D : List Ak) : xsT D D.length = D.flatMap akE := by simp [xsT]
theorem xsT_set {D : List Ak} {n : Nat} (h : D.length < n) (r : Ak) : (xsT D n).take (D.length * 3) ++ (akE r ++ (xsT D n).drop (D.length * 3 + 3)) = xsT (D ++ [r]) n := by
  have hl := akE_length D
  have e : n - D.length = (n - (D ++ [r]).length) + 1 := by simp; omega
  unfold xsT
  rw [e, List.replicate_succ, List.flatten_cons, ← hl, List.take_left, List.drop_append, List.drop_of_length_le (by omega), List.flatMap_append]
  simp
structure TkI where
  D : List Ak
  G : Heap
structure TkInv (R : List Ak) (H : Heap) (i : TkI) : Prop where
  le : i.D.length ≤ R.length
  eq : i.D.map bareK = (R.take i.D.length).map bareK
  sp : i.G.get H.length = some ⟨xsT i.D R.length, true, 39, 3⟩
  row : ∀ r ∈ i.D, H.length < r.2.2.1 ∧ r.2.2.2.2.length ≤ 1048577 ∧ i.G.get r.2.2.1 = some ⟨r.2.2.2.2.flatMap nmE, true, 3, 1⟩
  vk : VK H i.G
  kq : KQ H i.G
theorem TkInv.start (R : List Ak) (H : Heap) : TkInv R H ⟨[], H ++ [some ⟨xsT [] R.length, true, 39, 3⟩]⟩ := by
  refine ⟨by simp, rfl, (Heap.get_len_add _ _ 0).trans rfl, fun r hr => absurd hr (by simp), ?_, KQ.app⟩
  exact VK.snoc (L2.refl fun x hx => WM_flat (by
    simp only [xsT, List.flatMap_nil, List.nil_append] at hx
    obtain ⟨m, h1, h2⟩ := List.mem_flatten.1 hx
    rw [List.eq_of_mem_replicate h1] at h2
    simp only [List.mem_cons, List.not_mem_nil, or_false] at h2
    rcases h2 with rfl | rfl | rfl <;> rfl))
theorem wm_xsT {D : List Ak} {n : Nat} {σ : Sig} {a m : Nat} (hσ : ∀ t, t < a → σ t = some t) (h : a ≤ m) (hR : ∀ r ∈ D, r.2.2.1 < a) : L2 (WM σ m) (xsT D n) (xsT D n) :=
  (wm_aks hσ h hR).append (L2.refl fun x hx => WM_flat (by
    obtain ⟨m, h1, h2⟩ := List.mem_flatten.1 hx
    rw [List.eq_of_mem_replicate h1] at h2
    simp only [List.mem_cons, List.not_mem_nil, or_false] at h2
    rcases h2 with rfl | rfl | rfl <;> rfl))
theorem TkInv.next {R : List Ak} {H : Heap} {i : TkI} (h : TkInv R H i) (hk : i.D.length < R.length) (x y : Int) (l : List Int) (hl : l.length ≤ 1048577) (hb : bareK (R.getD i.D.length akD) = (x, y, 0, 0, l)) :
    TkInv R H ⟨i.D ++ [(x, y, i.G.length, l.length, l)], i.G.set H.length (some ⟨xsT (i.D ++ [(x, y, i.G.length, l.length, l)]) R.length, true, 39, 3⟩) ++ [some ⟨l.flatMap nmE, true, 3, 1⟩]⟩ := by
  have hu := Heap.get_lt h.sp
  have hA : ∀ r ∈ i.D, r.2.2.1 < i.G.length := fun r hr => Heap.get_lt (h.row r hr).2.2
  have hgl : ∀ b, (i.G.set H.length b).length = i.G.length := fun b => by simp
  have hg : ∀ b L t, t < i.G.length → t ≠ H.length → Heap.get (i.G.set H.length b ++ L) t = i.G.get t := fun b L t ht hne => (Heap.get_append_left (by rw [hgl]; exact ht)).trans (Heap.get_set_ne hne)
  have hAD : ∀ r ∈ i.D ++ [(x, y, i.G.length, l.length, l)], r.2.2.1 < i.G.length + 1 := fun r hr => by
    rcases List.mem_append.1 hr with hr | hr
    · have := hA r hr; omega
    · rw [List.mem_singleton] at hr; subst hr; simp only; omega
  refine ⟨by simp only [List.length_append, List.length_singleton]; omega, ?_, ?_, fun r hr => ?_, ?_, ⟨by have := h.kq.1; simp; omega, fun t ht => (hg _ _ t (by have := h.kq.1; omega) (by omega)).trans (h.kq.2 t ht)⟩⟩
  · simp only [List.length_append, List.length_singleton]
    rw [List.take_succ_eq_append_getElem hk, List.map_append, List.map_append, h.eq]
    rw [List.getD_eq_getElem?_getD, List.getElem?_eq_getElem hk] at hb
    simp only [Option.getD_some] at hb
    simp only [List.map_cons, List.map_nil, hb]
  · exact (Heap.get_append_left (by rw [hgl]; exact hu)).trans (Heap.get_set_self hu)
  · rcases List.mem_append.1 hr with hr | hr
    · have g := h.row r hr
      exact ⟨g.1, g.2.1, (hg _ _ _ (hA r hr) (by omega)).trans g.2.2⟩
    · rw [List.mem_singleton] at hr
      subst hr
      refine ⟨hu, hl, ?_⟩
      show Heap.get _ i.G.length = _
      have g0 : ∀ b L, Heap.get (i.G.set H.length b ++ L) i.G.length = Heap.get L 0 := fun b L => by have := Heap.get_len_add (i.G.set H.length b) L 0; rwa [hgl, Nat.add_zero] at this
      exact (g0 _ _).trans rfl
  · have v1 := VK.snoc (K := i.G.set H.length none) (b := ⟨l.flatMap nmE, true, 3, 1⟩) (L2.refl fun x hx => WM_flat (List.all_eq_true.1 (nmE_flat _) x hx))
    have v2 := VK.set (K := i.G.set H.length none ++ [some ⟨l.flatMap nmE, true, 3, 1⟩]) (t := H.length) (b := ⟨xsT (i.D ++ [(x, y, i.G.length, l.length, l)]) R.length, true, 39, 3⟩) (by simp; omega)
      (wm_xsT (a := i.G.length + 1) (fun t ht => by simp [sg]; omega) (by simp) hAD)
    have := (h.vk.unset.trans v1).trans v2
    rwa [set_into hu] at this
def PTo (H : Heap) (R : List Ak) (v : Value) (G : Heap) : Prop :=
  ∃ D : List Ak, v = .slice (some ⟨H.length, 0, none⟩) D.length 0 ∧ D.map bareK = R.map bareK ∧ G.get H.length = some ⟨D.flatMap akE, true, 39, 3⟩ ∧
    (∀ r ∈ D, H.length < r.2.2.1 ∧ r.2.2.2.2.length ≤ 1048577 ∧ G.get r.2.2.1 = some ⟨r.2.2.2.2.flatMap nmE, true, 3, 1⟩) ∧ VK H G ∧ KQ H G
theorem toAks_R (R : List Ak) (hl : R.length ≤ 1048577) (hn : ∀ r ∈ R, r.2.2.2.2.length ≤ 1048577) (c : Nat) (H : Heap) (t : Nat) (hA : AksIn H t R) :
    AFunR Try.prog 6 [.slice (some ⟨t, 0, none⟩) R.length c] H (PTo H R) := by
  refine AFunR.of_body Try.func6 (by kernel_rfl) rfl (by kernel_rfl) (by simp [Try.ntmps6]) ?_
  have ht := hA.sp.lt
  simp -dsimp -implicitDefEqProofs (disch := omega) [go_sem, -List.getD_eq_getElem?_getD, ite_yes, ht]
  refine ⟨by omega, ?_⟩
  have hst := TkInv.start R H
  refine ALoop.intro (ι := TkI) (fun i => TkInv R H i) (fun i => [(0, .slice (some ⟨t, 0, none⟩) R.length c), (3, .slice (some ⟨H.length, 0, none⟩) R.length R.length), (4, .int .i64 i.D.length)]) (fun i => i.G) (fun i => R.length - i.D.length) _ hst ?_ ?_
  · refine weakS_vmk (K := H) (L' := [some ⟨xsT [] R.length, true, 39, 3⟩]) (VK.refl H) [some 0] rfl ?_ (by simp -dsimp -implicitDefEqProofs (disch := omega) [go_sem, -List.getD_eq_getElem?_getD, ite_yes, ht])
    simp -dsimp -implicitDefEqProofs (disch := omega) [go_sem, -List.getD_eq_getElem?_getD, ite_yes]
    exact .inl ⟨by simp [xsT], by simp [xsT, flat]⟩
  intro i hi
  have nx := hi.next
  obtain ⟨D, G⟩ := i
  have hle := hi.le
  have hsp := hi.sp
  have hV := hi.vk
  have hQ := hi.kq
  have heq := hi.eq
  have hrow := hi.row
  simp only at hle hsp hV hQ heq hrow nx ⊢
  have hAG := hA.kq hQ
  have hu := Heap.get_lt hsp
  have gt := hAG.sp.lt
  by_cases hlt : D.length < R.length
  · have hlti : (D.length : Int) < (R.length : Int) := by omega
    have cs := hAG.sp.cells (s := 3) (fun _ => rfl) akD D.length hlt
    simp only [akE] at cs
    have hx := hn _ (akmem hlt)
    have hnx := hAG.ns _ (akmem hlt)
    have xs := xsT_set hlt ((R.getD D.length akD).1, (R.getD D.length akD).2.1, G.length, (R.getD D.length akD).2.2.2.2.length, (R.getD D.length akD).2.2.2.2)
    have nx := nx hlt (R.getD D.length akD).1 (R.getD D.length akD).2.1 (R.getD D.length akD).2.2.2.2 hx rfl
    have hxl := xsT_length (n := R.length) hle
    generalize R.getD D.length akD = x at *
    obtain ⟨x1, x2, x3, x4, l⟩ := x
    simp only [akE] at cs hx hnx xs nx
    have gU := fun L => (Heap.get_append_left (L := L) hu).trans hsp
    have bU : ∀ L, blkSz (G ++ L) H.length = some 3 := fun L => by unfold blkSz; rw [gU L]
    have sU := fun (L : Heap) (y : Option Blk) => set_into0 (H := G) (L := L) hu (y := y)
    have hd : D.length * 3 + 3 ≤ R.length * 3 := by omega
    simp -dsimp -implicitDefEqProofs (disch := omega) [go_sem, -List.getD_eq_getElem?_getD, ite_yes, hlt, hlti, gt, hu, cs]
    refine ACall.of (toArea_A x1 x2 l hx _ _ _ hnx) ?_
    simp -dsimp -implicitDefEqProofs (disch := omega) [go_sem, -List.getD_eq_getElem?_getD, ite_yes, hlt, hlti, gt, hu, gU, bU, sU, hxl, hd]
    refine LoopEnd.of _ nx (by simp only [List.length_append, List.length_singleton]; omega) ?_
    dsimp only
    simp only [List.cons_append, List.nil_append] at xs
    rw [← xs] at nx ⊢
    exact weakS_vk nx.vk (by simp -dsimp -implicitDefEqProofs (disch := omega) [go_sem, -List.getD_eq_getElem?_getD, ite_yes, gt, hu] <;> omega)
  · have hlti : ¬ (D.length : Int) < (R.length : Int) := by omega
    have e : D.length = R.length := by omega
    rw [e, List.take_length] at heq
    have hsp2 := hsp
    rw [← e, xsT_all] at hsp2
    simp -dsimp -implicitDefEqProofs (disch := omega) [go_sem, -List.getD_eq_getElem?_getD, ite_yes, hlt, hlti]
    exact EndR.of (.slice (some ⟨H.length, 0, none⟩) D.length 0) G ⟨D, rfl, heq, hsp2, hrow, hV, hQ⟩ (fin_vk hV (by simp -dsimp -implicitDefEqProofs (disch := omega) [go_sem, -List.getD_eq_getElem?_getD, ite_yes, hu, e]))
end Go.Proofs.Ytdbneadblnejgaa
/- A list of areas is marked. -/
namespace Go.Proofs.Ytdbneadblnejgaa
open Go.Am
set_option linter.unusedVariables false
set_option linter.unusedSimpArgs false
set_option maxRecDepth 100000
set_option maxHeartbeats 4000000
theorem nsum_mono (R : List Ak) {k : Nat} : ∀ n, k ≤ n → nsum R k ≤ nsum R n
  | 0, h => by obtain rfl : k = 0 := by omega
               exact Nat.le_refl _
  | n + 1, h => by
    rcases Nat.lt_or_ge n k with h' | h'
    · obtain rfl : k = n + 1 := by omega
      exact Nat.le_refl _
    · have := nsum_mono R n h'
      rw [nsum]; omega
theorem ak_getD {D R : List Ak} (h : D.map (·.2.2) = R.map (·.2.2)) {k : Nat} (hk : k < R.length) : (D.getD k akD).2.2 = (R.getD k akD).2.2 := by
  have hl : D.length = R.length := by have := congrArg List.length h; simpa using this
  have e : (D.map (·.2.2)).getD k akD.2.2 = (R.map (·.2.2)).getD k akD.2.2 := by rw [h]
  simp only [List.getD_eq_getElem?_getD, List.getElem?_map, List.getElem?_eq_getElem hk, List.getElem?_eq_getElem (show k < D.length by omega), Option.map_some, Option.getD_some] at e ⊢
  exact e
theorem ak_map_set {D : List Ak} {k : Nat} (hk : k < D.length) (y : Ak) (h : y.2.2 = (D.getD k akD).2.2) : (D.set k y).map (·.2.2) = D.map (·.2.2) := by
  have gk : D.getD k akD = D[k] := by rw [List.getD_eq_getElem?_getD, List.getElem?_eq_getElem hk]; rfl
  rw [List.map_set, h, gk]
  have : (D[k]).2.2 = (D.map (·.2.2))[k]'(by simpa using hk) := by simp
  rw [this, List.set_getElem_self]
structure MkI where
  k : Nat
  D : List Ak
  G : Heap
structure MkInv (R : List Ak) (H : Heap) (b0 b1 : Nat) (i : MkI) : Prop where
  le : i.k ≤ R.length
  ns : i.D.map (·.2.2) = R.map (·.2.2)
  sp : i.G.get b0 = some ⟨i.D.flatMap akE, true, 39, 3⟩
  row : ∀ r ∈ i.D, b0 < r.2.2.1 ∧ r.2.2.1 < b1 ∧ ∃ l : List Int, l.length = r.2.2.2.2.length ∧ i.G.get r.2.2.1 = some ⟨l.flatMap nmE, true, 3, 1⟩
  out : ∀ t, t < b0 ∨ b1 ≤ t → i.G.get t = H.get t
  gl : i.G.length = H.length
  vk : VK H i.G
theorem MkInv.next {R : List Ak} {H : Heap} {b0 b1 : Nat} {i : MkI} (h : MkInv R H b0 b1 i) (hk : i.k < R.length) (m : Int) (l : List Int) (hg : i.G.get (i.D.getD i.k akD).2.2.1 = some ⟨l.flatMap nmE, true, 3, 1⟩) :
    MkInv R H b0 b1 ⟨i.k + 1, i.D.set i.k (m, m + 1, (i.D.getD i.k akD).2.2), (i.G.set b0 (some ⟨(i.D.set i.k (m, m + 1, (i.D.getD i.k akD).2.2)).flatMap akE, true, 39, 3⟩)).set (i.D.getD i.k akD).2.2.1 (some ⟨(marksNm (m + 2) l.length).flatMap nmE, true, 3, 1⟩)⟩ := by
  have hD : i.D.length = R.length := by have := congrArg List.length h.ns; simpa using this
  have hx := h.row _ (akmem (R := i.D) (k := i.k) (by omega))
  have hu := Heap.get_lt h.sp
  have hAD : ∀ r ∈ i.D, r.2.2.1 < i.G.length := fun r hr => by obtain ⟨_, _, l', _, g⟩ := h.row r hr; exact Heap.get_lt g
  have hxl := Heap.get_lt hg
  have ms := ak_map_set (D := i.D) (k := i.k) (by omega) (m, m + 1, (i.D.getD i.k akD).2.2) rfl
  have hmem : ∀ r ∈ i.D.set i.k (m, m + 1, (i.D.getD i.k akD).2.2), ∃ r' ∈ i.D, r.2.2 = r'.2.2 := fun r hr => by
    rcases List.mem_or_eq_of_mem_set hr with hr | hr
    · exact ⟨r, hr, rfl⟩
    · exact ⟨_, akmem (R := i.D) (k := i.k) (by omega), by rw [hr]⟩
  generalize i.D.getD i.k akD = x at *
  refine ⟨hk, ms.trans h.ns, ?_, fun r hr => ?_, fun t ht => ?_, by simp only [List.length_set]; exact h.gl, ?_⟩
  · exact (Heap.get_set_ne (by omega)).trans (Heap.get_set_self hu)
  · obtain ⟨r', hr', e⟩ := hmem r hr
    obtain ⟨g1, g2, l', g3, g4⟩ := h.row r' hr'
    rw [e]
    refine ⟨g1, g2, ?_⟩
    by_cases et : r'.2.2.1 = x.2.2.1
    · rw [et] at g4 ⊢
      refine ⟨marksNm (m + 2) l.length, ?_, Heap.get_set_self (by simp; exact hxl)⟩
      rw [marksNm_length, ← g3]
      have e2 := g4.symm.trans hg
      injection e2 with e2
      injection e2 with e2
      have := congrArg List.length e2
      rw [nmE_length, nmE_length] at this
      omega
    · exact ⟨l', g3, (Heap.get_set_ne et).trans ((Heap.get_set_ne (by omega)).trans g4)⟩
  · exact (Heap.get_set_ne (by omega)).trans ((Heap.get_set_ne (by omega)).trans (h.out t ht))
  · have v1 := VK.set (K := i.G) (t := b0) (b := ⟨(i.D.set i.k (m, m + 1, x.2.2)).flatMap akE, true, 39, 3⟩) hu
      (wm_aks (n := i.G.length) (fun t ht => by simp [sg]; omega) (Nat.le_refl _) fun r hr => by
        obtain ⟨r', hr', e⟩ := hmem r hr
        rw [e]; exact hAD r' hr')
    have v2 := VK.set (K := i.G.set b0 (some ⟨(i.D.set i.k (m, m + 1, x.2.2)).flatMap akE, true, 39, 3⟩)) (t := x.2.2.1) (b := ⟨(marksNm (m + 2) l.length).flatMap nmE, true, 3, 1⟩) (by simp; exact hxl)
      (L2.refl fun x hx => WM_flat (List.all_eq_true.1 (nmE_flat _) x hx))
    exact (h.vk.trans v1).trans v2
def PMk (H : Heap) (b0 b1 : Nat) (v : Value) (G : Heap) : Prop := ∃ x : Int, v = .int .i64 x ∧ 0 ≤ x ∧ (∀ t, t < b0 ∨ b1 ≤ t → G.get t = H.get t) ∧ G.length = H.length ∧ VK H G
theorem markAks_R (R : List Ak) (hl : R.length ≤ 1048577) (hN : nsum R R.length ≤ 1048577) (c : Nat) (H : Heap) (b0 b1 : Nat) (hsp : H.get b0 = some ⟨R.flatMap akE, true, 39, 3⟩)
    (hrow : ∀ r ∈ R, b0 < r.2.2.1 ∧ r.2.2.1 < b1 ∧ H.get r.2.2.1 = some ⟨r.2.2.2.2.flatMap nmE, true, 3, 1⟩) :
    AFunR Try.prog 10 [.slice (some ⟨b0, 0, none⟩) R.length c, .int .i64 1] H (PMk H b0 b1) := by
  refine AFunR.of_body Try.func10 (by kernel_rfl) rfl (by kernel_rfl) (by simp [Try.ntmps10]) ?_
  have ht := Heap.get_lt hsp
  simp -dsimp -implicitDefEqProofs (disch := omega) [go_sem, -List.getD_eq_getElem?_getD, ite_yes, ht]
  have hst : MkInv R H b0 b1 ⟨0, R, H⟩ := ⟨by simp, rfl, hsp, fun r hr => ⟨(hrow r hr).1, (hrow r hr).2.1, _, rfl, (hrow r hr).2.2⟩, fun t _ => rfl, rfl, VK.refl H⟩
  refine ALoop.intro (ι := MkI) (fun i => MkInv R H b0 b1 i) (fun i => [(0, .slice (some ⟨b0, 0, none⟩) R.length c), (1, .int .i64 (1 + 2 * (i.k : Int) + (nsum R i.k : Int))), (5, .int .i64 i.k)]) (fun i => i.G) (fun i => R.length - i.k) _ hst ?_ ?_
  · exact weakS_vk (VK.refl H) (by simp -dsimp -implicitDefEqProofs (disch := omega) [go_sem, -List.getD_eq_getElem?_getD, ite_yes, ht, nsum])
  intro i hi
  have nx := hi.next
  obtain ⟨k, D, G⟩ := i
  have hle := hi.le
  have hns := hi.ns
  have hsp := hi.sp
  have hV := hi.vk
  have hgl := hi.gl
  have hrow := hi.row
  simp only at hle hns hsp hV hgl hrow nx ⊢
  have hD : D.length = R.length := by have := congrArg List.length hns; simpa using this
  have hu := Heap.get_lt hsp
  by_cases hlt : k < R.length
  · have hlti : (k : Int) < (R.length : Int) := by omega
    obtain ⟨r1, r2, l, r3, r4⟩ := hrow _ (akmem (R := D) (k := k) (by omega))
    have nx := nx hlt (1 + 2 * (k : Int) + (nsum R k : Int)) l r4
    have en : nsum R (k + 1) = nsum R k + l.length := by rw [nsum, r3, ak_getD hns hlt]
    have m1 := nsum_mono R (k := k + 1) R.length (by omega)
    have e1 := set_cell (f := akE) (s := 3) (l := D) (i := k) (fun _ => rfl) (1 + 2 * (k : Int) + (nsum R k : Int), (D.getD k akD).2.1, (D.getD k akD).2.2) akD (by omega) (j := 0) (by omega) (v := .int .i64 (1 + 2 * (k : Int) + (nsum R k : Int))) rfl
    have hD1 : (D.set k (1 + 2 * (k : Int) + (nsum R k : Int), (D.getD k akD).2.1, (D.getD k akD).2.2)).getD k akD = (1 + 2 * (k : Int) + (nsum R k : Int), (D.getD k akD).2.1, (D.getD k akD).2.2) := by
      rw [List.getD_eq_getElem?_getD, List.getElem?_set_self (by omega)]; rfl
    have e2 := set_cell (f := akE) (s := 3) (l := D.set k (1 + 2 * (k : Int) + (nsum R k : Int), (D.getD k akD).2.1, (D.getD k akD).2.2)) (i := k) (fun _ => rfl) (1 + 2 * (k : Int) + (nsum R k : Int), 1 + 2 * (k : Int) + (nsum R k : Int) + 1, (D.getD k akD).2.2) akD (by simp; omega) (j := 1) (by omega) (v := .int .i64 (1 + 2 * (k : Int) + (nsum R k : Int) + 1)) (by rw [hD1]; rfl)
    rw [List.set_set] at e2
    have hD2 : (D.set k (1 + 2 * (k : Int) + (nsum R k : Int), 1 + 2 * (k : Int) + (nsum R k : Int) + 1, (D.getD k akD).2.2)).getD k akD = (1 + 2 * (k : Int) + (nsum R k : Int), 1 + 2 * (k : Int) + (nsum R k : Int) + 1, (D.getD k akD).2.2) := by
      rw [List.getD_eq_getElem?_getD, List.getElem?_set_self (by omega)]; rfl
    have f1 : aCells (G.set b0 (some ⟨(D.set k (1 + 2 * (k : Int) + (nsum R k : Int), 1 + 2 * (k : Int) + (nsum R k : Int) + 1, (D.getD k akD).2.2)).flatMap akE, true, 39, 3⟩)) ⟨b0, k * 3 + 2, none⟩ 1 = some [.slice (some ⟨(D.getD k akD).2.2.1, 0, none⟩) (D.getD k akD).2.2.2.2.length (D.getD k akD).2.2.2.1] := by
      have S : Sl akE (G.set b0 (some ⟨(D.set k (1 + 2 * (k : Int) + (nsum R k : Int), 1 + 2 * (k : Int) + (nsum R k : Int) + 1, (D.getD k akD).2.2)).flatMap akE, true, 39, 3⟩)) b0 (D.set k (1 + 2 * (k : Int) + (nsum R k : Int), 1 + 2 * (k : Int) + (nsum R k : Int) + 1, (D.getD k akD).2.2)) := ⟨_, [], Heap.get_set_self hu, by simp⟩
      have := S.cell (s := 3) (fun _ => rfl) akD k 2 (by simp; omega) (by omega)
      rw [hD2] at this
      exact this
    have l0 : (D.flatMap akE).length = R.length * 3 := by rw [akE_length, hD]
    have l1 : ((D.set k (1 + 2 * (k : Int) + (nsum R k : Int), (D.getD k akD).2.1, (D.getD k akD).2.2)).flatMap akE).length = R.length * 3 := by rw [akE_length, List.length_set, hD]
    have l2 : ((D.set k (1 + 2 * (k : Int) + (nsum R k : Int), 1 + 2 * (k : Int) + (nsum R k : Int) + 1, (D.getD k akD).2.2)).flatMap akE).length = R.length * 3 := by rw [akE_length, List.length_set, hD]
    rw [Nat.add_zero] at e1
    have gs := fun x => Heap.get_set_self (H := G) hu (x := x)
    have bs := fun x => (by unfold blkSz; rw [gs x]; cases x <;> rfl : blkSz (G.set b0 x) b0 = x.map (·.sz))
    have b3 : blkSz G b0 = some 3 := by unfold blkSz; rw [hsp]
    have hk3 : k * 3 + 3 ≤ R.length * 3 := by omega
    generalize D.set k (1 + 2 * (k : Int) + (nsum R k : Int), (D.getD k akD).2.1, (D.getD k akD).2.2) = D1 at *
    generalize D.set k (1 + 2 * (k : Int) + (nsum R k : Int), 1 + 2 * (k : Int) + (nsum R k : Int) + 1, (D.getD k akD).2.2) = D2 at *
    generalize D.getD k akD = x at *
    have hx := Heap.get_lt r4
    have M := fun c => markNmS_A l (by omega) c 3 (1 + 2 * (k : Int) + (nsum R k : Int) + 2) (by omega) (by omega) (G.set b0 (some ⟨D2.flatMap akE, true, 39, 3⟩)) x.2.2.1 ((Heap.get_set_ne (by omega)).trans r4)
    rw [r3] at M nx
    generalize nsum R k = ns at *
    simp -dsimp -implicitDefEqProofs (disch := omega) [go_sem, -List.getD_eq_getElem?_getD, ite_yes, hlt, hlti, hu, hsp, b3, l0, e1, hk3]
    simp -dsimp -implicitDefEqProofs (disch := omega) [go_sem, -List.getD_eq_getElem?_getD, ite_yes, hlt, hlti, hu, gs, bs, l1, e2, hk3, List.set_set, f1]
    refine ACall.of (M _) ?_
    simp -dsimp -implicitDefEqProofs (disch := omega) [go_sem, -List.getD_eq_getElem?_getD, ite_yes, hlt, hlti, hu]
    refine LoopEnd.of _ nx (by simp only; omega) ?_
    exact weakS_vk nx.vk (by simp -dsimp -implicitDefEqProofs (disch := omega) [go_sem, -List.getD_eq_getElem?_getD, ite_yes, hu, en] <;> omega)
  · have hlti : ¬ (k : Int) < (R.length : Int) := by omega
    simp -dsimp -implicitDefEqProofs (disch := omega) [go_sem, -List.getD_eq_getElem?_getD, ite_yes, hlt, hlti]
    exact EndR.of (.int .i64 (1 + 2 * (k : Int) + (nsum R k : Int))) G ⟨_, rfl, by omega, hi.out, hgl, hV⟩ (fin_vk hV (by simp -dsimp -implicitDefEqProofs (disch := omega) [go_sem, -List.getD_eq_getElem?_getD, ite_yes]))
end Go.Proofs.Ytdbneadblnejgaa
