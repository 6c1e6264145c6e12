/- SortK, Leak4, RwL, DrawRank, DrawLk2, Leak5, in one text. -/
import Derived.Test.YteojpgmclplggaaLlM2
import Derived.Test.YteojpgmclplggaaAm17
import Derived.Test.YteojpgmclplggaaLlM1
import Derived.Test.YteojpgmclplggaaLlM3
/- A stable sort of areas, by a comparison that is told. -/
namespace Go.Proofs.Yteojpgmclplggaa
open Go.Am
set_option linter.unusedVariables false
set_option linter.unusedSimpArgs false
set_option maxRecDepth 100000
set_option maxHeartbeats 4000000
/-- an area in a heap: number, houses, where its nights lie, their capacity as told, the nights -/
abbrev Ak := Int × Int × Nat × Nat × List Int
def akE (r : Ak) : List Value := [.int .i64 r.1, .int .i64 r.2.1, .slice (some ⟨r.2.2.1, 0, none⟩) r.2.2.2.2.length r.2.2.2.1]
abbrev akD : Ak := (0, 0, 0, 0, [])
theorem akE_length (l : List Ak) : (l.flatMap akE).length = l.length * 3 := flatMap_length akE 3 (fun _ => rfl) l
theorem wm_aks {R : List Ak} {n m : Nat} {σ : Sig} (hσ : ∀ t, t < n → σ t = some t) (h : n ≤ m) (hR : ∀ r ∈ R, r.2.2.1 < n) : L2 (WM σ m) (R.flatMap akE) (R.flatMap akE) := by
  refine L2.refl fun x hx => ?_
  obtain ⟨r, hr, hx⟩ := List.mem_flatMap.1 hx
  have := hR r hr
  simp only [akE, List.mem_cons, List.not_mem_nil, or_false] at hx
  rcases hx with rfl | rfl | rfl
  · rfl
  · rfl
  · exact ⟨by show r.2.2.1 < m; omega, .inl ⟨r.2.2.1, r.2.2.2.1, hσ _ this, rfl⟩⟩
theorem wm_aks0 {R : List Ak} {H : Heap} (hR : ∀ r ∈ R, r.2.2.1 < H.length) : L2 (WM (sg H.length []) H.length) (R.flatMap akE) (R.flatMap akE) := wm_aks (n := H.length) (fun t ht => by simp only [sg, ht, if_true]) (Nat.le_refl _) hR
/-- where an area belongs among some: behind the last of the first k that it does not go before -/
def posK (lt : Ak → Ak → Bool) (L : List Ak) (x : Ak) : Nat → Nat
  | 0 => 0
  | k + 1 => if lt x (L.getD k akD) then posK lt L x k else k + 1
theorem posK_le (lt : Ak → Ak → Bool) (L : List Ak) (x : Ak) : ∀ k, posK lt L x k ≤ k
  | 0 => Nat.le_refl _
  | k + 1 => by have := posK_le lt L x k; rw [posK]; split <;> omega
def insK (lt : Ak → Ak → Bool) (L : List Ak) (x : Ak) : List Ak := L.take (posK lt L x L.length) ++ x :: L.drop (posK lt L x L.length)
def ordK (lt : Ak → Ak → Bool) (l : List Ak) : Nat → List Ak
  | 0 => []
  | i + 1 => insK lt (ordK lt l i) (l.getD i akD)
theorem insK_length (lt : Ak → Ak → Bool) (L : List Ak) (x : Ak) : (insK lt L x).length = L.length + 1 := by
  have := posK_le lt L x L.length
  rw [insK]
  simp only [List.length_append, List.length_take, List.length_cons, List.length_drop]
  omega
theorem ordK_length (lt : Ak → Ak → Bool) (l : List Ak) : ∀ i, (ordK lt l i).length = i
  | 0 => rfl
  | i + 1 => by rw [ordK, insK_length, ordK_length lt l i]
theorem ordK_app (lt : Ak → Ak → Bool) (l m : List Ak) : ∀ i, i ≤ l.length → ordK lt (l ++ m) i = ordK lt l i
  | 0, _ => rfl
  | i + 1, h => by
    rw [ordK, ordK, ordK_app lt l m i (by omega)]
    congr 1
    rw [List.getD_eq_getElem?_getD, List.getD_eq_getElem?_getD, List.getElem?_append_left (by omega)]
def sortK (lt : Ak → Ak → Bool) (l : List Ak) : List Ak := ordK lt l l.length
theorem sortK_snoc (lt : Ak → Ak → Bool) (l : List Ak) (x : Ak) : sortK lt (l ++ [x]) = insK lt (sortK lt l) x := by
  unfold sortK
  rw [List.length_append, List.length_singleton, ordK, ordK_app lt l [x] l.length (Nat.le_refl _)]
  congr 1
  rw [List.getD_eq_getElem?_getD, List.getElem?_append_right (Nat.le_refl _), Nat.sub_self]; rfl
/-- the list within the sort: the i-th stands at j -/
def midK (lt : Ak → Ak → Bool) (l : List Ak) (i j : Nat) : List Ak := (ordK lt l i).take j ++ l.getD i akD :: ((ordK lt l i).drop j ++ l.drop (i + 1))
def outK (lt : Ak → Ak → Bool) (l : List Ak) (i : Nat) : List Ak := ordK lt l i ++ l.drop i
theorem outK_mid {lt : Ak → Ak → Bool} {l : List Ak} {i : Nat} (h : i < l.length) : outK lt l i = midK lt l i i := by
  unfold outK midK
  rw [show (ordK lt l i).take i = ordK lt l i from List.take_of_length_le (by rw [ordK_length]; omega), show (ordK lt l i).drop i = [] from List.drop_of_length_le (by rw [ordK_length]; omega), List.nil_append, List.drop_eq_getElem_cons h, List.getD_eq_getElem?_getD, List.getElem?_eq_getElem h]
  rfl
theorem midK_out (lt : Ak → Ak → Bool) (l : List Ak) (i : Nat) : midK lt l i (posK lt (ordK lt l i) (l.getD i akD) i) = outK lt l (i + 1) := by
  unfold outK midK
  rw [ordK, insK, ordK_length, List.append_assoc, List.cons_append]
theorem ak_at (A T : List Ak) (y : Ak) : List.take 3 (List.drop (A.length * 3) ((A ++ y :: T).flatMap akE)) = akE y := by
  have := flatMap_cells akE 3 (fun _ => rfl) akD (A ++ y :: T) A.length (by simp)
  rw [this]
  simp
theorem ak_put (A T : List Ak) (y z : Ak) : (A ++ z :: T).flatMap akE = ((A ++ y :: T).flatMap akE).take (A.length * 3) ++ (akE z ++ ((A ++ y :: T).flatMap akE).drop (A.length * 3 + 3)) := by
  have := set_flat_eq (f := akE) (s := 3) (l := A ++ y :: T) (i := A.length) (fun _ => rfl) z (by simp)
  rw [← this]
  simp
theorem ordK_mem {lt : Ak → Ak → Bool} {l : List Ak} {r : Ak} : ∀ {i}, i ≤ l.length → r ∈ ordK lt l i → r ∈ l
  | 0, _, h => by cases h
  | i + 1, hi, h => by
    rw [ordK, insK] at h
    rcases List.mem_append.1 h with h | h
    · exact ordK_mem (by omega) (List.mem_of_mem_take h)
    · rcases List.mem_cons.1 h with h | h
      · rw [h, List.getD_eq_getElem?_getD, List.getElem?_eq_getElem (by omega)]; exact List.getElem_mem _
      · exact ordK_mem (by omega) (List.mem_of_mem_drop h)
theorem outK_mem {lt : Ak → Ak → Bool} {l : List Ak} {r : Ak} {i : Nat} (hi : i ≤ l.length) (h : r ∈ outK lt l i) : r ∈ l := by
  rcases List.mem_append.1 h with h | h
  · exact ordK_mem hi h
  · exact List.mem_of_mem_drop h
theorem midK_mem {lt : Ak → Ak → Bool} {l : List Ak} {r : Ak} {i j : Nat} (hi : i < l.length) (h : r ∈ midK lt l i j) : r ∈ l := by
  rcases List.mem_append.1 h with h | h
  · exact ordK_mem (by omega) (List.mem_of_mem_take h)
  · rcases List.mem_cons.1 h with h | h
    · rw [h, List.getD_eq_getElem?_getD, List.getElem?_eq_getElem hi]; exact List.getElem_mem _
    · rcases List.mem_append.1 h with h | h
      · exact ordK_mem (by omega) (List.mem_of_mem_drop h)
      · exact List.mem_of_mem_drop h
theorem insK_A (lt : Ak → Ak → Bool) (l : List Ak) (hl8 : l.length ≤ 8) (c e g : Nat) (H : Heap) (t : Nat) (hb : H.get t = some ⟨l.flatMap akE, true, e, 3⟩) (hA : ∀ r ∈ l, r.2.2.1 < H.length)
    (hC : ∀ G : Heap, (∀ s, s ≠ t → G.get s = H.get s) → G.length = H.length → ∀ x ∈ l, ∀ y ∈ l, ∃ r : Int, AFunC Try.prog g [.agg #[.int .i64 x.1, .int .i64 x.2.1, .slice (some ⟨x.2.2.1, 0, none⟩) x.2.2.2.2.length x.2.2.2.1], .agg #[.int .i64 y.1, .int .i64 y.2.1, .slice (some ⟨y.2.2.1, 0, none⟩) y.2.2.2.2.length y.2.2.2.1]] (roH G) (.int .i64 r) (roH G) ∧ (lt x y = true ↔ r < 0)) :
    AFunC Try.prog 60 [.slice (some ⟨t, 0, none⟩) l.length c, .int .i64 0, .int .i64 l.length, .func (.func g) #[] #[]] H (.tuple #[]) (H.set t (some ⟨(sortK lt l).flatMap akE, true, e, 3⟩)) := by
  refine AFunC.of_body Try.func60 (by kernel_rfl) rfl (by kernel_rfl) (by simp [Try.ntmps60]) ?_
  have ht := Heap.get_lt hb
  have gs := fun x => Heap.get_set_self (H := H) ht (x := x)
  have e0 : l.length ≠ 0 → outK lt l 1 = l := fun h => by
    unfold outK
    rw [ordK, insK]
    cases l with
    | nil => exact absurd rfl h
    | cons x l => simp [ordK, posK]
  simp -dsimp -implicitDefEqProofs (disch := omega) [go_sem, -List.getD_eq_getElem?_getD, ite_yes, ht]
  refine ALoop.intro (ι := Nat) (fun i => 1 ≤ i ∧ i ≤ max l.length 1) (fun i => [(0, .slice (some ⟨t, 0, none⟩) l.length c), (1, .int .i64 0), (2, .int .i64 l.length), (3, .func (.func g) #[] #[]), (8, .int .i64 i)])
    (fun i => H.set t (some ⟨(if l.length = 0 then [] else outK lt l i).flatMap akE, true, e, 3⟩)) (fun i => l.length - i) 1 (by omega) ?_ ?_
  · refine weakS_setA (b := ⟨(if l.length = 0 then [] else outK lt l 1).flatMap akE, true, e, 3⟩) [] ht (wm_aks0 fun r hr => by
      split at hr
      · cases hr
      · exact hA r (outK_mem (by omega) hr)) rfl ?_ (by simp -dsimp -implicitDefEqProofs (disch := omega) [go_sem, -List.getD_eq_getElem?_getD, ite_yes, ht])
    have : (if l.length = 0 then [] else outK lt l 1) = l := by
      by_cases h : l.length = 0
      · rw [if_pos h]; exact (List.eq_nil_of_length_eq_zero h).symm
      · rw [if_neg h]; exact e0 h
    rw [List.append_nil, this]; exact (Heap.set_self hb).symm
  rintro i ⟨hi1, hi2⟩
  by_cases hlt : i < l.length
  rotate_left
  · have hlti : ¬ (i : Int) < (l.length : Int) := by omega
    have he : (if l.length = 0 then [] else outK lt l i) = sortK lt l := by
      by_cases h : l.length = 0
      · rw [if_pos h]; unfold sortK; rw [h]; rfl
      · rw [if_neg h]
        have : i = l.length := by omega
        subst this
        unfold outK sortK; rw [List.drop_length, List.append_nil]
    rw [he]
    simp -dsimp -implicitDefEqProofs (disch := omega) [go_sem, -List.getD_eq_getElem?_getD, ite_yes, hlti, hlt]
    exact fin_setA (b := ⟨(sortK lt l).flatMap akE, true, e, 3⟩) [] ht (wm_aks0 fun r hr => hA r (ordK_mem (Nat.le_refl _) hr)) rfl (by rw [List.append_nil]) ⟨_, rfl, trivial⟩
  have hlti : (i : Int) < (l.length : Int) := by omega
  have hn0 : l.length ≠ 0 := by omega
  have hol := ordK_length lt l i
  simp only [hn0, if_false]
  have hx0 : l.getD i akD ∈ l := by rw [List.getD_eq_getElem?_getD, List.getElem?_eq_getElem hlt]; exact List.getElem_mem _
  have hmM : ∀ j, ∀ r ∈ midK lt l i j, r.2.2.1 < H.length := fun j r hr => hA r (midK_mem hlt hr)
  have hmO : ∀ r ∈ outK lt l (i + 1), r.2.2.1 < H.length := fun r hr => hA r (outK_mem hlt hr)
  simp -dsimp -implicitDefEqProofs (disch := omega) [go_sem, -List.getD_eq_getElem?_getD, ite_yes, hlti, hlt, ht]
  refine ALoop.intro (ι := Nat) (fun j => j ≤ i ∧ posK lt (ordK lt l i) (l.getD i akD) i = posK lt (ordK lt l i) (l.getD i akD) j) (fun j => [(0, .slice (some ⟨t, 0, none⟩) l.length c), (1, .int .i64 0), (2, .int .i64 l.length), (3, .func (.func g) #[] #[]), (8, .int .i64 i), (9, .int .i64 j)])
    (fun j => H.set t (some ⟨(midK lt l i j).flatMap akE, true, e, 3⟩)) (fun j => j) i ⟨Nat.le_refl _, rfl⟩ ?_ ?_
  · exact weakS_setA (b := ⟨(midK lt l i i).flatMap akE, true, e, 3⟩) [] ht (wm_aks0 (hmM i)) rfl (by rw [outK_mid hlt, List.append_nil]) (by simp -dsimp -implicitDefEqProofs (disch := omega) [go_sem, -List.getD_eq_getElem?_getD, ite_yes, ht])
  rintro j ⟨hj, hpos⟩
  have hend : posK lt (ordK lt l i) (l.getD i akD) j = j → midK lt l i j = outK lt l (i + 1) := fun h => by rw [← midK_out, hpos, h]
  have hset : ∀ m : List Ak, m = outK lt l (i + 1) → H.set t (some ⟨m.flatMap akE, true, e, 3⟩) = H.set t (some ⟨(outK lt l (i + 1)).flatMap akE, true, e, 3⟩) := fun m h => by rw [h]
  cases j with
  | zero =>
    have hm := hend rfl
    obtain ⟨M, hM⟩ : ∃ M, midK lt l i 0 = M := ⟨_, rfl⟩
    rw [hM] at hm ⊢
    simp -dsimp -implicitDefEqProofs (disch := omega) [go_sem, -List.getD_eq_getElem?_getD, ite_yes, ht]
    refine ADraw.quiet (by kernel_rfl) (by kernel_rfl) (by kernel_rfl) ?_
    simp -dsimp -implicitDefEqProofs (disch := omega) [go_sem, -List.getD_eq_getElem?_getD, ite_yes, ht]
    exact LoopEnd.of (i + 1) (by omega) (by omega) (weakS_setA (b := ⟨(outK lt l (i + 1)).flatMap akE, true, e, 3⟩) [] ht (wm_aks0 hmO) (by simp only [hn0, if_false]) (by rw [List.append_nil]; exact hset M hm) (by simp -dsimp -implicitDefEqProofs (disch := omega) [go_sem, -List.getD_eq_getElem?_getD, ite_yes, ht]))
  | succ j =>
  have hjl : j < (ordK lt l i).length := by omega
  have htl : ((ordK lt l i).take j).length = j := by rw [List.length_take]; omega
  obtain ⟨y, hy⟩ : ∃ y, (ordK lt l i)[j] = y := ⟨_, rfl⟩
  have hyd : (ordK lt l i).getD j akD = y := by rw [List.getD_eq_getElem?_getD, List.getElem?_eq_getElem hjl]; exact hy
  have hp : posK lt (ordK lt l i) (l.getD i akD) (j + 1) = if lt (l.getD i akD) y then posK lt (ordK lt l i) (l.getD i akD) j else j + 1 := by rw [posK, hyd]
  have eM : midK lt l i (j + 1) = (ordK lt l i).take j ++ y :: l.getD i akD :: ((ordK lt l i).drop (j + 1) ++ l.drop (i + 1)) := by
    unfold midK
    rw [List.take_succ_eq_append_getElem hjl, hy, List.append_assoc]; rfl
  have eM2 : midK lt l i j = (ordK lt l i).take j ++ l.getD i akD :: y :: ((ordK lt l i).drop (j + 1) ++ l.drop (i + 1)) := by
    unfold midK
    rw [List.drop_eq_getElem_cons hjl, hy, List.cons_append]
  have hlen : (midK lt l i (j + 1)).length = l.length := by
    rw [eM]; simp only [List.length_append, List.length_cons, List.length_drop, htl]; omega
  have hy0 : y ∈ l := ordK_mem (lt := lt) (i := i) (by omega) (hy ▸ List.getElem_mem hjl)
  obtain ⟨r, C, hr⟩ := hC (H.set t (some ⟨(midK lt l i (j + 1)).flatMap akE, true, e, 3⟩)) (fun s hs => Heap.get_set_ne hs) (by simp) (l.getD i akD) hx0 y hy0
  generalize l.getD i akD = x at hpos hp eM eM2 hend C hr
  have hfl : ((midK lt l i (j + 1)).flatMap akE).length = l.length * 3 := by rw [akE_length, hlen]
  have ca : aCells (H.set t (some ⟨(midK lt l i (j + 1)).flatMap akE, true, e, 3⟩)) ⟨t, (j + 1) * 3, none⟩ 3 = some (akE x) := by
    have h9 := ak_at ((ordK lt l i).take j ++ [y]) ((ordK lt l i).drop (j + 1) ++ l.drop (i + 1)) x
    rw [List.append_assoc, List.length_append, htl] at h9
    rw [aCells_eq, gs, aC1]
    simp only [hfl]
    rw [if_pos (by omega), eM]
    exact congrArg some h9
  have cb : aCells (H.set t (some ⟨(midK lt l i (j + 1)).flatMap akE, true, e, 3⟩)) ⟨t, j * 3, none⟩ 3 = some (akE y) := by
    have h9 := ak_at ((ordK lt l i).take j) (x :: ((ordK lt l i).drop (j + 1) ++ l.drop (i + 1))) y
    rw [htl] at h9
    rw [aCells_eq, gs, aC1]
    simp only [hfl]
    rw [if_pos (by omega), eM]
    exact congrArg some h9
  obtain ⟨M1, hM1⟩ : ∃ M, (ordK lt l i).take j ++ y :: y :: ((ordK lt l i).drop (j + 1) ++ l.drop (i + 1)) = M := ⟨_, rfl⟩
  have s1 : ((midK lt l i (j + 1)).flatMap akE).take ((j + 1) * 3) ++ (akE y ++ ((midK lt l i (j + 1)).flatMap akE).drop ((j + 1) * 3 + 3)) = M1.flatMap akE := by
    have h9 := ak_put ((ordK lt l i).take j ++ [y]) ((ordK lt l i).drop (j + 1) ++ l.drop (i + 1)) x y
    rw [List.append_assoc, List.length_append, htl, List.append_assoc] at h9
    rw [eM, ← hM1]
    exact h9.symm
  have s2 : (M1.flatMap akE).take (j * 3) ++ (akE x ++ (M1.flatMap akE).drop (j * 3 + 3)) = (midK lt l i j).flatMap akE := by
    have h9 := ak_put ((ordK lt l i).take j) (y :: ((ordK lt l i).drop (j + 1) ++ l.drop (i + 1))) y x
    rw [htl] at h9
    rw [eM2, ← hM1]
    exact h9.symm
  have hfl2 : (M1.flatMap akE).length = l.length * 3 := by
    rw [← s1]
    simp only [List.length_append, List.length_take, List.length_drop, hfl, akE, List.length_cons, List.length_nil]
    omega
  simp only [akE, List.cons_append, List.nil_append] at ca cb s1 s2
  obtain ⟨M, hM⟩ : ∃ M, midK lt l i (j + 1) = M := ⟨_, rfl⟩
  rw [hM] at hend hfl ca cb s1 C ⊢
  have hj0 : j < l.length := by omega
  have hj1 : j + 1 < l.length := by omega
  simp -dsimp -implicitDefEqProofs (disch := omega) [go_sem, -List.getD_eq_getElem?_getD, ite_yes, ht]
  refine ADraw.quiet (by kernel_rfl) (by kernel_rfl) (by kernel_rfl) ?_
  simp -dsimp -implicitDefEqProofs (disch := omega) [go_sem, -List.getD_eq_getElem?_getD, ite_yes, ht, hj0, hj1, ca, cb]
  refine ACallQ.of C rfl ?_
  by_cases hxy : lt x y = true
  · rw [if_pos hxy] at hp
    rw [hp] at hpos
    have hc := hr.1 hxy
    simp -dsimp -implicitDefEqProofs (disch := omega) [go_sem, -List.getD_eq_getElem?_getD, ite_yes, ht, hc]
    refine ADraw.any [] (by kernel_rfl) (SubH.nil) ?_
    refine AAny.takes (fuel := 6) (by kernel_rfl) (by kernel_rfl) [0, 1, 2, 3, 4, 5, 6, 7, 8, 10, 11, 12] (by kernel_rfl) (by kernel_rfl) ?_
    simp -dsimp -implicitDefEqProofs (disch := omega) [go_sem, -List.getD_eq_getElem?_getD, ite_yes, ht, hj0, hj1, ca, cb, gs, hfl, hfl2, s1, s2, List.set_set]
    refine AAny.two 5 9 13 (by kernel_rfl) (by kernel_rfl) (by kernel_rfl) ?_ ?_
    · simp -dsimp -implicitDefEqProofs (disch := omega) [go_sem, -List.getD_eq_getElem?_getD, ite_yes, ht, hj0, hj1, ca, cb, gs, hfl, hfl2, s1, s2, List.set_set]
      first | refine AAt.of (SubH.nil) ?_ | (refine ⟨?_, AAt.of (SubH.nil) ?_⟩; · omega)
      refine AAny.one 4 13 (by kernel_rfl) (by kernel_rfl) (by kernel_rfl) ?_
      simp -dsimp -implicitDefEqProofs (disch := omega) [go_sem, -List.getD_eq_getElem?_getD, ite_yes, ht, hj0, hj1, ca, cb, gs, hfl, hfl2, s1, s2, List.set_set]
      first | refine AAt.of (SubH.nil) ?_ | (refine ⟨?_, AAt.of (SubH.nil) ?_⟩; · omega)
      refine AAny.takes (fuel := 3) (by kernel_rfl) (by kernel_rfl) [14] (by kernel_rfl) (by kernel_rfl) ?_
      simp -dsimp -implicitDefEqProofs (disch := omega) [go_sem, -List.getD_eq_getElem?_getD, ite_yes, ht, hj0, hj1, ca, cb, gs, hfl, hfl2, s1, s2, List.set_set]
      refine AAny.one 2 15 (by kernel_rfl) (by kernel_rfl) (by kernel_rfl) ?_
      simp -dsimp -implicitDefEqProofs (disch := omega) [go_sem, -List.getD_eq_getElem?_getD, ite_yes, ht, hj0, hj1, ca, cb, gs, hfl, hfl2, s1, s2, List.set_set]
      first | refine AAt.of (SubH.nil) ?_ | (refine ⟨?_, AAt.of (SubH.nil) ?_⟩; · omega)
      refine AAny.takes (fuel := 1) (by kernel_rfl) (by kernel_rfl) [16] (by kernel_rfl) (by kernel_rfl) ?_
      simp -dsimp -implicitDefEqProofs (disch := omega) [go_sem, -List.getD_eq_getElem?_getD, ite_yes, ht, hj0, hj1, ca, cb, gs, hfl, hfl2, s1, s2, List.set_set]
      refine AAny.one 0 17 (by kernel_rfl) (by kernel_rfl) (by kernel_rfl) ?_
      simp -dsimp -implicitDefEqProofs (disch := omega) [go_sem, -List.getD_eq_getElem?_getD, ite_yes, ht, hj0, hj1, ca, cb, gs, hfl, hfl2, s1, s2, List.set_set]
      first | refine AAt.of (SubH.nil) ?_ | (refine ⟨?_, AAt.of (SubH.nil) ?_⟩; · omega)
      refine AAny.done (by kernel_rfl) ?_
      simp -dsimp -implicitDefEqProofs (disch := omega) [go_sem, -List.getD_eq_getElem?_getD, ite_yes, ht, hj0, hj1, ca, cb, gs, hfl, hfl2, s1, s2, List.set_set]
      exact LoopEnd.of j ⟨by omega, hpos⟩ (by omega) (weakS_setA (b := ⟨(midK lt l i j).flatMap akE, true, e, 3⟩) [] ht (wm_aks0 (hmM j)) rfl (by simp [s1, s2]) (by simp -dsimp -implicitDefEqProofs (disch := omega) [go_sem, -List.getD_eq_getElem?_getD, ite_yes, ht]))
    · simp -dsimp -implicitDefEqProofs (disch := omega) [go_sem, -List.getD_eq_getElem?_getD, ite_yes, ht, hj0, hj1, ca, cb, gs, hfl, hfl2, s1, s2, List.set_set]
      first | refine AAt.of (SubH.nil) ?_ | (refine ⟨?_, AAt.of (SubH.nil) ?_⟩; · omega)
      refine AAny.one 4 9 (by kernel_rfl) (by kernel_rfl) (by kernel_rfl) ?_
      simp -dsimp -implicitDefEqProofs (disch := omega) [go_sem, -List.getD_eq_getElem?_getD, ite_yes, ht, hj0, hj1, ca, cb, gs, hfl, hfl2, s1, s2, List.set_set]
      first | refine AAt.of (SubH.nil) ?_ | (refine ⟨?_, AAt.of (SubH.nil) ?_⟩; · omega)
      refine AAny.takes (fuel := 3) (by kernel_rfl) (by kernel_rfl) [14] (by kernel_rfl) (by kernel_rfl) ?_
      simp -dsimp -implicitDefEqProofs (disch := omega) [go_sem, -List.getD_eq_getElem?_getD, ite_yes, ht, hj0, hj1, ca, cb, gs, hfl, hfl2, s1, s2, List.set_set]
      refine AAny.one 2 15 (by kernel_rfl) (by kernel_rfl) (by kernel_rfl) ?_
      simp -dsimp -implicitDefEqProofs (disch := omega) [go_sem, -List.getD_eq_getElem?_getD, ite_yes, ht, hj0, hj1, ca, cb, gs, hfl, hfl2, s1, s2, List.set_set]
      first | refine AAt.of (SubH.nil) ?_ | (refine ⟨?_, AAt.of (SubH.nil) ?_⟩; · omega)
      refine AAny.takes (fuel := 1) (by kernel_rfl) (by kernel_rfl) [16] (by kernel_rfl) (by kernel_rfl) ?_
      simp -dsimp -implicitDefEqProofs (disch := omega) [go_sem, -List.getD_eq_getElem?_getD, ite_yes, ht, hj0, hj1, ca, cb, gs, hfl, hfl2, s1, s2, List.set_set]
      refine AAny.one 0 17 (by kernel_rfl) (by kernel_rfl) (by kernel_rfl) ?_
      simp -dsimp -implicitDefEqProofs (disch := omega) [go_sem, -List.getD_eq_getElem?_getD, ite_yes, ht, hj0, hj1, ca, cb, gs, hfl, hfl2, s1, s2, List.set_set]
      first | refine AAt.of (SubH.nil) ?_ | (refine ⟨?_, AAt.of (SubH.nil) ?_⟩; · omega)
      refine AAny.done (by kernel_rfl) ?_
      simp -dsimp -implicitDefEqProofs (disch := omega) [go_sem, -List.getD_eq_getElem?_getD, ite_yes, ht, hj0, hj1, ca, cb, gs, hfl, hfl2, s1, s2, List.set_set]
      exact LoopEnd.of j ⟨by omega, hpos⟩ (by omega) (weakS_setA (b := ⟨(midK lt l i j).flatMap akE, true, e, 3⟩) [] ht (wm_aks0 (hmM j)) rfl (by simp [s1, s2]) (by simp -dsimp -implicitDefEqProofs (disch := omega) [go_sem, -List.getD_eq_getElem?_getD, ite_yes, ht]))
  · rw [if_neg hxy] at hp
    have hc : ¬ r < 0 := fun h => hxy (hr.2 h)
    simp -dsimp -implicitDefEqProofs (disch := omega) [go_sem, -List.getD_eq_getElem?_getD, ite_yes, ht, hc]
    exact LoopEnd.of (i + 1) (by omega) (by omega) (weakS_setA (b := ⟨(outK lt l (i + 1)).flatMap akE, true, e, 3⟩) [] ht (wm_aks0 hmO) (by simp only [hn0, if_false]) (by rw [List.append_nil]; exact hset M (hend hp)) (by simp -dsimp -implicitDefEqProofs (disch := omega) [go_sem, -List.getD_eq_getElem?_getD, ite_yes, ht]))
theorem stableK_A (lt : Ak → Ak → Bool) (l : List Ak) (hl8 : l.length ≤ 8) (c e g : Nat) (H : Heap) (t : Nat) (hb : H.get t = some ⟨l.flatMap akE, true, e, 3⟩) (hA : ∀ r ∈ l, r.2.2.1 < H.length)
    (hC : ∀ G : Heap, (∀ s, s ≠ t → G.get s = H.get s) → G.length = H.length → ∀ x ∈ l, ∀ y ∈ l, ∃ r : Int, AFunC Try.prog g [.agg #[.int .i64 x.1, .int .i64 x.2.1, .slice (some ⟨x.2.2.1, 0, none⟩) x.2.2.2.2.length x.2.2.2.1], .agg #[.int .i64 y.1, .int .i64 y.2.1, .slice (some ⟨y.2.2.1, 0, none⟩) y.2.2.2.2.length y.2.2.2.1]] (roH G) (.int .i64 r) (roH G) ∧ (lt x y = true ↔ r < 0)) :
    AFunC Try.prog 54 [.slice (some ⟨t, 0, none⟩) l.length c, .int .i64 l.length, .func (.func g) #[] #[]] H (.tuple #[]) (H.set t (some ⟨(sortK lt l).flatMap akE, true, e, 3⟩)) := by
  refine AFunC.of_body Try.func54 (by kernel_rfl) rfl (by kernel_rfl) (by simp [Try.ntmps54]) ?_
  have ht := Heap.get_lt hb
  have h1 : ¬ (20 : Int) ≤ (l.length : Int) := by omega
  have h2 : ¬ (20 : Int) < (l.length : Int) := by omega
  have h1n : ¬ 20 ≤ l.length := by omega
  have h2n : ¬ 20 < l.length := by omega
  simp -dsimp -implicitDefEqProofs (disch := omega) [go_sem, -List.getD_eq_getElem?_getD, ite_yes, ht]
  refine ALoop.intro (ι := Unit) (fun _ => True) (fun _ => [(0, .slice (some ⟨t, 0, none⟩) l.length c), (1, .int .i64 l.length), (2, .func (.func g) #[] #[]), (6, .int .i64 20), (7, .int .i64 0), (8, .int .i64 20)]) (fun _ => H) (fun _ => 0) () trivial ?_ ?_
  · exact weakS_same (by simp -dsimp -implicitDefEqProofs (disch := omega) [go_sem, -List.getD_eq_getElem?_getD, ite_yes, ht])
  intro _ _
  simp -dsimp -implicitDefEqProofs (disch := omega) [go_sem, -List.getD_eq_getElem?_getD, ite_yes, h1, h1n, ht]
  refine ACall.of (insK_A lt l hl8 c e g H t hb hA hC) ?_
  simp -dsimp -implicitDefEqProofs (disch := omega) [go_sem, -List.getD_eq_getElem?_getD, ite_yes, ht]
  refine ALoop.intro (ι := Unit) (fun _ => True) (fun _ => [(1, .int .i64 l.length), (6, .int .i64 20)]) (fun _ => H.set t (some ⟨(sortK lt l).flatMap akE, true, e, 3⟩)) (fun _ => 0) () trivial ?_ ?_
  · exact weakS_setA (b := ⟨(sortK lt l).flatMap akE, true, e, 3⟩) [] ht (wm_aks0 fun r hr => hA r (ordK_mem (Nat.le_refl _) hr)) rfl (by rw [List.append_nil]) (by simp -dsimp -implicitDefEqProofs (disch := omega) [go_sem, -List.getD_eq_getElem?_getD, ite_yes, ht])
  intro _ _
  simp -dsimp -implicitDefEqProofs (disch := omega) [go_sem, -List.getD_eq_getElem?_getD, ite_yes, h2, h2n]
  exact fin_setA (b := ⟨(sortK lt l).flatMap akE, true, e, 3⟩) [] ht (wm_aks0 fun r hr => hA r (ordK_mem (Nat.le_refl _) hr)) rfl (by rw [List.append_nil]) ⟨_, rfl, trivial⟩
theorem sortStableK_A (lt : Ak → Ak → Bool) (l : List Ak) (hl8 : l.length ≤ 8) (c e g : Nat) (H : Heap) (t : Nat) (hb : H.get t = some ⟨l.flatMap akE, true, e, 3⟩) (hA : ∀ r ∈ l, r.2.2.1 < H.length)
    (hC : ∀ G : Heap, (∀ s, s ≠ t → G.get s = H.get s) → G.length = H.length → ∀ x ∈ l, ∀ y ∈ l, ∃ r : Int, AFunC Try.prog g [.agg #[.int .i64 x.1, .int .i64 x.2.1, .slice (some ⟨x.2.2.1, 0, none⟩) x.2.2.2.2.length x.2.2.2.1], .agg #[.int .i64 y.1, .int .i64 y.2.1, .slice (some ⟨y.2.2.1, 0, none⟩) y.2.2.2.2.length y.2.2.2.1]] (roH G) (.int .i64 r) (roH G) ∧ (lt x y = true ↔ r < 0)) :
    AFunC Try.prog 38 [.slice (some ⟨t, 0, none⟩) l.length c, .func (.func g) #[] #[]] H (.tuple #[]) (H.set t (some ⟨(sortK lt l).flatMap akE, true, e, 3⟩)) := by
  refine AFunC.of_body Try.func38 (by kernel_rfl) rfl (by kernel_rfl) (by simp [Try.ntmps38]) ?_
  have ht := Heap.get_lt hb
  simp -dsimp -implicitDefEqProofs (disch := omega) [go_sem, -List.getD_eq_getElem?_getD, ite_yes, ht]
  refine ACall.of (stableK_A lt l hl8 c e g H t hb hA hC) ?_
  simp -dsimp -implicitDefEqProofs (disch := omega) [go_sem, -List.getD_eq_getElem?_getD, ite_yes]
  exact fin_setA (b := ⟨(sortK lt l).flatMap akE, true, e, 3⟩) [] ht (wm_aks0 fun r hr => hA r (ordK_mem (Nat.le_refl _) hr)) rfl (by rw [List.append_nil]) ⟨_, rfl, trivial⟩
end Go.Proofs.Yteojpgmclplggaa
/- Areas in order: the list, and the comparison. -/
namespace Go.Proofs.Yteojpgmclplggaa
open Go.Am
set_option linter.unusedVariables false
set_option linter.unusedSimpArgs false
set_option maxRecDepth 100000
set_option maxHeartbeats 4000000
theorem wl_aks {R : List Ak} {m j : Nat} {js : List (Option Nat)} (hR : ∀ r ∈ R, r.2.2.1 < m) : WL (sg m js) (m + j) (R.flatMap akE) (R.flatMap akE) :=
  .inr (by rw [List.take_length]; exact wm_aks (n := m) (fun t ht => by simp only [sg, ht, if_true]) (by omega) hR)
/-- areas in a heap: their nights lie in blocks of their own -/
structure AksAt (H : Heap) (t : Nat) (R : List Ak) : Prop where
  sp : Sl akE H t R
  ns : ∀ r ∈ R, Sl nmE H r.2.2.1 r.2.2.2.2 ∧ r.2.2.2.2.length ≤ 1048577
theorem AksAt.app {H L : Heap} {t : Nat} {R : List Ak} (h : AksAt H t R) : AksAt (H ++ L) t R := ⟨h.sp.app, fun r hr => ⟨(h.ns r hr).1.app, (h.ns r hr).2⟩⟩
theorem akmem {R : List Ak} {k : Nat} (hk : k < R.length) : R.getD k akD ∈ R := by
  rw [List.getD_eq_getElem?_getD, List.getElem?_eq_getElem hk]; exact List.getElem_mem _
def okAk (r : Ak) : Bool := areaB r.1 r.2.1 r.2.2.2.2
def rankIx (R : List Ak) (i : Nat) : Bool := okAk (R.getD i akD) && (decide (i = 0) || decide ((R.getD (i - 1) akD).1 < (R.getD i akD).1))
def rankTo (R : List Ak) (k : Nat) : Prop := ∀ i, i < k → rankIx R i = true
instance (R : List Ak) (k : Nat) : Decidable (rankTo R k) := inferInstanceAs (Decidable (∀ i, i < k → _))
def rankB (R : List Ak) : Bool := decide (R.length ≤ 8) && decide (rankTo R R.length)
theorem rankTo.next {R : List Ak} {k : Nat} (h : rankTo R k) (h1 : rankIx R k = true) : rankTo R (k + 1) := fun i hi => by
  rcases Nat.lt_or_ge i k with h' | h'
  · exact h i h'
  · obtain rfl : i = k := by omega
    exact h1
theorem rankB_no {R : List Ak} {k : Nat} (hk : k < R.length) (h : rankIx R k = false) : rankB R = false := by
  unfold rankB
  rw [decide_eq_false (p := rankTo R R.length) (fun hh => by rw [hh k hk] at h; cases h), Bool.and_false]
theorem rankB_at {R : List Ak} (h : rankB R = true) : R.length ≤ 8 ∧ ∀ r ∈ R, AreaAt r.1 r.2.1 r.2.2.2.2 := by
  simp only [rankB, Bool.and_eq_true, decide_eq_true_eq] at h
  refine ⟨h.1, fun r hr => ?_⟩
  obtain ⟨i, hi, e⟩ := List.getElem_of_mem hr
  have := h.2 i hi
  simp only [rankIx, Bool.and_eq_true] at this
  have hg : R.getD i akD = r := by rw [List.getD_eq_getElem?_getD, List.getElem?_eq_getElem hi]; exact e
  rw [hg] at this
  exact area_at this.1
/-- what is lost in the last night -/
def lastN (r : Ak) : Int := lossN r.2.1 r.2.2.2.2 (r.2.2.2.2.length - 1)
def moreK (x y : Ak) : Bool := decide (lastN y * x.2.1 < lastN x * y.2.1)
abbrev akV (r : Ak) : Value := .agg #[.int .i64 r.1, .int .i64 r.2.1, .slice (some ⟨r.2.2.1, 0, none⟩) r.2.2.2.2.length r.2.2.2.1]
theorem rank1_A (x y : Ak) (hx : AreaAt x.1 x.2.1 x.2.2.2.2) (hy : AreaAt y.1 y.2.1 y.2.2.2.2) (H : Heap) (hS : Sl nmE H x.2.2.1 x.2.2.2.2) (hU : Sl nmE H y.2.2.1 y.2.2.2.2) :
    AFunC Try.prog 39 [akV x, akV y] H (.int .i64 (cmpI (lastN y * x.2.1) (lastN x * y.2.1))) H := by
  refine AFunC.of_body Try.func39 (by kernel_rfl) rfl (by kernel_rfl) (by simp [Try.ntmps39]) ?_
  obtain ⟨i1, h1, t1, c1, L1⟩ := x
  obtain ⟨i2, h2, t2, c2, L2⟩ := y
  simp only [akV] at *
  have ht := hS.lt
  have hu := hU.lt
  have n1 := hx.n
  have n2 := hy.n
  have r1 := loss_rng hx (k := L1.length - 1) (by omega)
  have r2 := loss_rng hy (k := L2.length - 1) (by omega)
  have e1 : ((L1.length : Int) - 1) = ((L1.length - 1 : Nat) : Int) := by omega
  have e2 : ((L2.length : Int) - 1) = ((L2.length - 1 : Nat) : Int) := by omega
  have hh1 := hx.h
  have hh2 := hy.h
  have A1 := fun G hS => lossOn_A i1 h1 L1 hx (L1.length - 1) (by omega) c1 G t1 hS
  have A2 := fun G hS => lossOn_A i2 h2 L2 hy (L2.length - 1) (by omega) c2 G t2 hS
  unfold lastN
  simp only at r1 r2 hh1 hh2 ⊢
  generalize lossN h1 L1 (L1.length - 1) = p1 at *
  generalize lossN h2 L2 (L2.length - 1) = p2 at *
  have m1 : 0 ≤ p2 * h1 := Int.mul_nonneg r2.1 (by omega)
  have m2 : p2 * h1 ≤ 1000000 * h1 := Int.mul_le_mul_of_nonneg_right r2.2 (by omega)
  have m3 : 0 ≤ p1 * h2 := Int.mul_nonneg r1.1 (by omega)
  have m4 : p1 * h2 ≤ 1000000 * h2 := Int.mul_le_mul_of_nonneg_right r1.2 (by omega)
  simp -dsimp -implicitDefEqProofs (disch := omega) [go_sem, -List.getD_eq_getElem?_getD, ite_yes, ht, hu]
  refine ADraw.quiet (by kernel_rfl) (by kernel_rfl) (by kernel_rfl) ?_
  simp -dsimp -implicitDefEqProofs (disch := omega) [go_sem, -List.getD_eq_getElem?_getD, ite_yes, ht, hu, e1, e2]
  refine ACallQ.of (A2 _ hU.app.ro) rfl ?_
  simp -dsimp -implicitDefEqProofs (disch := omega) [go_sem, -List.getD_eq_getElem?_getD, ite_yes, ht, hu, e1, e2]
  refine ACallQ.of (A1 _ hS.app.ro) rfl ?_
  simp -dsimp -implicitDefEqProofs (disch := omega) [go_sem, -List.getD_eq_getElem?_getD, ite_yes, ht, hu]
  refine ACallQ.of (compare_A _ _ _) rfl ?_
  simp -dsimp -implicitDefEqProofs (disch := omega) [go_sem, -List.getD_eq_getElem?_getD, ite_yes]
  exact fin_flat rfl rfl
theorem cmpI_more (x y : Ak) : moreK x y = true ↔ cmpI (lastN y * x.2.1) (lastN x * y.2.1) < 0 := by
  unfold moreK cmpI
  rw [decide_eq_true_eq]
  split
  · rename_i h; exact ⟨fun _ => by omega, fun _ => h⟩
  · rename_i h
    split
    · exact ⟨fun h' => absurd h' h, fun h' => by omega⟩
    · exact ⟨fun h' => absurd h' h, fun h' => by omega⟩
theorem l17More_A (x y : Ak) (hx : AreaAt x.1 x.2.1 x.2.2.2.2) (hy : AreaAt y.1 y.2.1 y.2.2.2.2) (H : Heap) (hS : Sl nmE H x.2.2.1 x.2.2.2.2) (hU : Sl nmE H y.2.2.1 y.2.2.2.2) :
    AFunC Try.prog 41 [akV x, akV y] H (.bool (moreK x y)) H := by
  refine AFunC.of_body Try.func41 (by kernel_rfl) rfl (by kernel_rfl) (by simp [Try.ntmps41]) ?_
  obtain ⟨i1, h1, t1, c1, L1⟩ := x
  obtain ⟨i2, h2, t2, c2, L2⟩ := y
  simp only [akV] at *
  have ht := hS.lt
  have hu := hU.lt
  have n1 := hx.n
  have n2 := hy.n
  have r1 := loss_rng hx (k := L1.length - 1) (by omega)
  have r2 := loss_rng hy (k := L2.length - 1) (by omega)
  have e1 : ((L1.length : Int) - 1) = ((L1.length - 1 : Nat) : Int) := by omega
  have e2 : ((L2.length : Int) - 1) = ((L2.length - 1 : Nat) : Int) := by omega
  have hh1 := hx.h
  have hh2 := hy.h
  have A1 := fun G hS => l17Lost_A i1 h1 L1 hx (L1.length - 1) (by omega) c1 G t1 hS
  have A2 := fun G hS => l17Lost_A i2 h2 L2 hy (L2.length - 1) (by omega) c2 G t2 hS
  unfold moreK lastN
  simp only at r1 r2 hh1 hh2 ⊢
  generalize lossN h1 L1 (L1.length - 1) = p1 at *
  generalize lossN h2 L2 (L2.length - 1) = p2 at *
  have m1 : 0 ≤ p2 * h1 := Int.mul_nonneg r2.1 (by omega)
  have m2 : p2 * h1 ≤ 1000000 * h1 := Int.mul_le_mul_of_nonneg_right r2.2 (by omega)
  have m3 : 0 ≤ p1 * h2 := Int.mul_nonneg r1.1 (by omega)
  have m4 : p1 * h2 ≤ 1000000 * h2 := Int.mul_le_mul_of_nonneg_right r1.2 (by omega)
  simp -dsimp -implicitDefEqProofs (disch := omega) [go_sem, -List.getD_eq_getElem?_getD, ite_yes, ht, hu]
  refine ADraw.quiet (by kernel_rfl) (by kernel_rfl) (by kernel_rfl) ?_
  simp -dsimp -implicitDefEqProofs (disch := omega) [go_sem, -List.getD_eq_getElem?_getD, ite_yes, ht, hu, e1, e2]
  refine ACallQ.of (A1 _ hS.app.ro) rfl ?_
  simp -dsimp -implicitDefEqProofs (disch := omega) [go_sem, -List.getD_eq_getElem?_getD, ite_yes, ht, hu, e1, e2]
  refine ACallQ.of (A2 _ hU.app.ro) rfl ?_
  simp -dsimp -implicitDefEqProofs (disch := omega) [go_sem, -List.getD_eq_getElem?_getD, ite_yes, ht, hu]
  exact fin_flat rfl rfl
theorem l17List_Ak (R : List Ak) (hl : R.length ≤ 1048577) (c : Nat) (H : Heap) (t : Nat) (hS : AksAt H t R) :
    AFunC Try.prog 40 [.slice (some ⟨t, 0, none⟩) R.length c] H (.bool (rankB R)) H := by
  refine AFunC.of_body Try.func40 (by kernel_rfl) rfl (by kernel_rfl) (by simp [Try.ntmps40]) ?_
  have ht := hS.sp.lt
  have cs := fun k hk => hS.sp.cells (s := 3) (fun _ => rfl) akD k hk
  have c0 := fun k hk => hS.sp.cell (s := 3) (fun _ => rfl) akD k 0 hk (by omega)
  simp only [akE, Nat.add_zero] at cs c0
  simp -dsimp -implicitDefEqProofs (disch := omega) [go_sem, -List.getD_eq_getElem?_getD, ite_yes]
  refine ALoop.intro (ι := Nat) (fun k => k ≤ R.length ∧ rankTo R k) (fun k => [(0, .slice (some ⟨t, 0, none⟩) R.length c), (3, .int .i64 k)]) (fun _ => H) (fun k => R.length - k) 0 ⟨by omega, fun i hi => by omega⟩ ?_ ?_
  · exact weakS_same (by simp -dsimp -implicitDefEqProofs (disch := omega) [go_sem, -List.getD_eq_getElem?_getD, ite_yes, ht])
  rintro k ⟨hk, hf⟩
  by_cases hlt : k < R.length
  rotate_left
  · obtain rfl : k = R.length := by omega
    simp -dsimp -implicitDefEqProofs (disch := omega) [go_sem, -List.getD_eq_getElem?_getD, ite_yes, hlt]
    exact fin_flat0 rfl (by rw [rankB, decide_eq_true hf, Bool.and_true]; congr 1; rw [decide_eq_decide]; omega)
  have hlti : (k : Int) < (R.length : Int) := by omega
  have k1 := cs k hlt
  have k0 := c0 k hlt
  obtain ⟨hn, hnl⟩ := hS.ns _ (akmem hlt)
  have hix : rankIx R k = (okAk (R.getD k akD) && (decide (k = 0) || decide ((R.getD (k - 1) akD).1 < (R.getD k akD).1))) := rfl
  have kp := fun (hk0 : 0 < k) => c0 (k - 1) (by omega)
  generalize R.getD k akD = r at *
  have A := l17Good_A r.1 r.2.1 r.2.2.2.2 hnl r.2.2.2.1 (roH H) r.2.2.1 hn.ro
  have hrt := hn.lt
  simp -dsimp -implicitDefEqProofs (disch := omega) [go_sem, -List.getD_eq_getElem?_getD, ite_yes, hlt, hlti]
  refine ADraw.quiet (by kernel_rfl) (by kernel_rfl) (by kernel_rfl) ?_
  simp -dsimp -implicitDefEqProofs (disch := omega) [go_sem, -List.getD_eq_getElem?_getD, ite_yes, hlt, hlti, k1, ht, hrt]
  refine ACallQ.of A rfl ?_
  cases hv : areaB r.1 r.2.1 r.2.2.2.2
  · simp -dsimp -implicitDefEqProofs (disch := omega) [go_sem, -List.getD_eq_getElem?_getD, ite_yes]
    exact fin_flat0 rfl (by rw [rankB_no hlt (by rw [hix, okAk, hv]; rfl)])
  rcases Nat.eq_zero_or_pos k with h0 | h0
  · subst h0
    simp -dsimp -implicitDefEqProofs (disch := omega) [go_sem, -List.getD_eq_getElem?_getD, ite_yes]
    exact LoopEnd.of 1 ⟨by omega, hf.next (by rw [hix, okAk, hv]; rfl)⟩ (by omega) (weakS_same (by simp -dsimp -implicitDefEqProofs (disch := omega) [go_sem, -List.getD_eq_getElem?_getD, ite_yes, ht]))
  have h0i : (0 : Int) < (k : Int) := by omega
  obtain ⟨j, rfl⟩ : ∃ j, k = j + 1 := ⟨k - 1, by omega⟩
  have kp := kp h0
  rw [Nat.add_sub_cancel] at kp hix
  have hj : j < R.length := by omega
  have hji : (j : Int) < (R.length : Int) := by omega
  by_cases hc : r.1 ≤ (R.getD j akD).1
  · generalize R.getD j akD = q at *
    simp -dsimp -implicitDefEqProofs (disch := omega) [go_sem, -List.getD_eq_getElem?_getD, ite_yes, hlt, hlti, h0, h0i, kp, k0, ht, hj, hji, hc]
    exact fin_flat0 rfl (by rw [rankB_no hlt (by rw [hix, decide_eq_false (p := q.1 < r.1) (by omega)]; simp)])
  · have hix' : rankIx R (j + 1) = true := by rw [hix, okAk, hv, decide_eq_true (p := (R.getD j akD).1 < r.1) (by omega)]; simp
    generalize R.getD j akD = q at *
    simp -dsimp -implicitDefEqProofs (disch := omega) [go_sem, -List.getD_eq_getElem?_getD, ite_yes, hlt, hlti, h0, h0i, kp, k0, ht, hj, hji, hc]
    exact LoopEnd.of (j + 1 + 1) ⟨by omega, hf.next hix'⟩ (by omega) (weakS_same (by simp -dsimp -implicitDefEqProofs (disch := omega) [go_sem, -List.getD_eq_getElem?_getD, ite_yes, ht]))
end Go.Proofs.Yteojpgmclplggaa
/- Lists of lists of numbers in a heap: a spine that holds addresses of rows. -/
namespace Go.Am
set_option linter.unusedVariables false
theorem wmp_any {n m : Nat} {σ : Sig} (hσ : ∀ t, t < n → σ t = some t) (h : n ≤ m) {v w : Value} (hv : WMP (sg n []) n v w) : WMP σ m v w := by
  cases v with
  | pointer a =>
    cases a with
    | none => exact hv.elim
    | some ad =>
      obtain ⟨h1, s, h2, h3⟩ := hv
      have h4 : ad.block < m := by omega
      have : s = ad.block := by simp [sg, h1] at h2; exact h2.symm
      subst this
      exact ⟨h4, _, hσ _ h1, h3⟩
  | _ => exact hv.elim
theorem wm_any {n m : Nat} {σ : Sig} (hσ : ∀ t, t < n → σ t = some t) (h : n ≤ m) {v w : Value} (hv : WM (sg n []) n v w) : WM σ m v w := by
  cases v with
  | pointer a =>
    cases a with
    | none => exact hv
    | some ad =>
      obtain ⟨h1, s, h2, h3⟩ := hv
      have h4 : ad.block < m := by omega
      have : s = ad.block := by simp [sg, h1] at h2; exact h2.symm
      subst this
      exact ⟨h4, _, hσ _ h1, h3⟩
  | slice a k c =>
    cases a with
    | none => exact hv
    | some ad =>
      obtain ⟨h1, hv⟩ := hv
      have h4 : ad.block < m := by omega
      refine ⟨h4, ?_⟩
      rcases hv with ⟨s, c0, h2, h3⟩ | hv
      · have : s = ad.block := by simp [sg, h1] at h2; exact h2.symm
        subst this
        exact .inl ⟨_, c0, hσ _ h1, h3⟩
      · exact absurd hv.1 (by simp [sg, h1])
  | func fn first cap =>
    obtain ⟨cap', h1, h2⟩ := hv
    exact ⟨cap', h1, h2.mono fun x y => wmp_any hσ h⟩
  | _ => exact hv
theorem VK.mk' {H K L L' : Heap} (h : VK H K) (js : List (Option Nat)) (hj : jsOk js = true) (hw : wkL (sg K.length js) (K.length + L'.length) L L' js) : Weak H (sg K.length js) (K ++ L') (K ++ L) := by
  have w := weak_mk js hj hw
  have hl := h.1
  have hs : ∀ t, t < K.length → sg K.length js t = some t := fun t ht => w.fix_ t ht
  refine ⟨Nat.le_trans hl w.len, fun t ht => w.fix_ t (by omega), fun t b' hb => ?_, w.inj⟩
  rcases w.blk t b' hb with ⟨h1, h2, h3⟩ | h2 | h3
  · rcases h.2 t b' h3 with ⟨g1, g2⟩ | g1
    · exact .inl ⟨g1, h2, g2⟩
    · refine .inr (.inr ⟨t, b', b'.xs.length, hs t h1, h2, rfl, rfl, id, ?_⟩)
      rw [List.take_length]
      exact g1.mono fun x y => wm_any hs (by simp)
  · exact .inr (.inl h2)
  · exact .inr (.inr h3)
theorem weakS_vmk {H K L L' : Heap} {fr fr' : Fr} (h : VK H K) (js : List (Option Nat)) (hj : jsOk js = true) (hw : wkL (sg K.length js) (K.length + L'.length) L L' js) (hf : FrW (sg K.length js) (K.length + L'.length) fr' fr) : WeakS H fr' (K ++ L') fr (K ++ L) :=
  ⟨_, h.mk' js hj hw, by simpa using hf⟩
theorem fin_vmk {H K L L' : Heap} {v vf : Value} (h : VK H K) (js : List (Option Nat)) (hj : jsOk js = true) (hw : wkL (sg K.length js) (K.length + L'.length) L L' js) (hf : WS (sg K.length js) (K.length + L'.length) v vf) : WeakV H v (K ++ L') vf (K ++ L) :=
  ⟨_, h.mk' js hj hw, by simpa using hf⟩
/-- what was made behind the caller's blocks is dropped -/
theorem fin_kq {H G : Heap} {v vf : Value} (h : ∀ t, t < H.length → G.get t = H.get t) (hf : WS (sg H.length []) H.length v vf) : WeakV H v H vf G := by
  refine ⟨sg H.length [], ⟨Nat.le_refl _, fun t ht => by simp only [sg, ht, if_true], fun t b' hb => ?_, fun t t' s b b' hne h1 h2 => ?_⟩, hf⟩
  · have ht := Heap.get_lt hb
    exact .inl ⟨ht, (h t ht).trans hb, hb⟩
  · have e : ∀ t s, sg H.length [] t = some s → s = t := by
      intro t s h
      unfold sg at h
      split at h
      · injection h with h; exact h.symm
      · simp at h
    exact absurd ((e _ _ h1).symm.trans (e _ _ h2)) hne
end Go.Am
namespace Go.Proofs.Yteojpgmclplggaa
open Go.Am
set_option linter.unusedVariables false
set_option linter.unusedSimpArgs false
set_option maxRecDepth 100000
/-- a row: where it lies, its capacity as it is told, its numbers -/
abbrev Rw := Nat × Nat × List Int
def rwE (r : Rw) : List Value := [.slice (some ⟨r.1, 0, none⟩) r.2.2.length r.2.1]
abbrev rw0 : Rw := (0, 0, [])
theorem rwE_length (R : List Rw) : (R.flatMap rwE).length = R.length := by
  rw [flatMap_length rwE 1 (fun _ => rfl)]; omega
theorem rwE_snoc (R : List Rw) (r : Rw) : (R ++ [r]).flatMap rwE = R.flatMap rwE ++ rwE r := by rw [List.flatMap_append]; simp
structure RowsAt (H : Heap) (b0 u : Nat) (R : List Rw) : Prop where
  sp : H.get u = some ⟨R.flatMap rwE, true, 24, 1⟩
  lo : b0 ≤ u
  row : ∀ r ∈ R, b0 ≤ r.1 ∧ r.1 ≠ u ∧ H.get r.1 = some ⟨r.2.2.flatMap nmE, true, 3, 1⟩
  dif : (R.map (·.1)).Nodup
theorem RowsAt.nil {H : Heap} {b0 u : Nat} (h : H.get u = some ⟨[], true, 24, 1⟩) (hb : b0 ≤ u) : RowsAt H b0 u [] := ⟨h, hb, fun r hr => absurd hr (by simp), by simp⟩
theorem RowsAt.le {H : Heap} {b0 b1 u : Nat} {R : List Rw} (h : RowsAt H b0 u R) (hb : b1 ≤ b0) : RowsAt H b1 u R :=
  ⟨h.sp, Nat.le_trans hb h.lo, fun r hr => ⟨Nat.le_trans hb (h.row r hr).1, (h.row r hr).2⟩, h.dif⟩
/-- another heap that says the same of the blocks from b0 on -/
theorem RowsAt.of {H G : Heap} {b0 u : Nat} {R : List Rw} (h : RowsAt H b0 u R) (hk : ∀ t, b0 ≤ t → t < H.length → G.get t = H.get t) : RowsAt G b0 u R :=
  ⟨(hk _ h.lo (Heap.get_lt h.sp)).trans h.sp, h.lo, fun r hr => ⟨(h.row r hr).1, (h.row r hr).2.1, (hk _ (h.row r hr).1 (Heap.get_lt (h.row r hr).2.2)).trans (h.row r hr).2.2⟩, h.dif⟩
theorem RowsAt.kq {H G : Heap} {b0 u : Nat} {R : List Rw} (h : RowsAt H b0 u R) (k : KQ H G) : RowsAt G b0 u R := h.of fun t _ ht => k.2 t ht
theorem RowsAt.sl {H : Heap} {b0 u : Nat} {R : List Rw} (h : RowsAt H b0 u R) : Sl rwE H u R := ⟨_, [], h.sp, by simp⟩
theorem RowsAt.lt {H : Heap} {b0 u : Nat} {R : List Rw} (h : RowsAt H b0 u R) : u < H.length := Heap.get_lt h.sp
theorem getD_mem {α : Type} {d : α} {R : List α} {k : Nat} (hk : k < R.length) : R.getD k d ∈ R := by
  rw [List.getD_eq_getElem?_getD, List.getElem?_eq_getElem hk]; exact List.getElem_mem _
theorem RowsAt.at {H : Heap} {b0 u : Nat} {R : List Rw} (h : RowsAt H b0 u R) {k : Nat} (hk : k < R.length) : Sl nmE H (R.getD k rw0).1 (R.getD k rw0).2.2 :=
  ⟨_, [], (h.row _ (getD_mem hk)).2.2, by simp⟩
theorem RowsAt.rlt {H : Heap} {b0 u : Nat} {R : List Rw} (h : RowsAt H b0 u R) {r : Rw} (hr : r ∈ R) : r.1 < H.length := Heap.get_lt (h.row r hr).2.2
theorem get_unset {H : Heap} {t u : Nat} (h : t ≠ u) : Heap.get (H.set u none) t = Heap.get H t := Heap.get_set_ne h
theorem cells_of {H G : Heap} {t o n : Nat} (h : G.get t = H.get t) : aCells G ⟨t, o, none⟩ n = aCells H ⟨t, o, none⟩ n := by
  rw [aCells_eq, aCells_eq, h]
theorem _root_.Go.Am.VK.unset {H K : Heap} {u : Nat} (h : VK H K) : VK H (K.set u none) := by
  refine ⟨by simpa using h.1, fun t b hb => ?_⟩
  rw [Heap.get_set] at hb
  split at hb
  · split at hb <;> cases hb
  · simpa using h.2 t b hb
/-- a row more: the row and the new spine lie behind, the old spine is no more -/
theorem RowsAt.snoc {H : Heap} {b0 u c : Nat} {R : List Rw} {l : List Int} (h : RowsAt H b0 u R) (hb : b0 ≤ H.length) : RowsAt (H.set u none ++ [some ⟨l.flatMap nmE, true, 3, 1⟩, some ⟨(R ++ [(H.length, c, l)]).flatMap rwE, true, 24, 1⟩]) b0 (H.length + 1) (R ++ [(H.length, c, l)]) := by
  have hl : (H.set u none).length = H.length := by simp
  refine ⟨by rw [← hl]; exact (Heap.get_len_add _ _ 1).trans rfl, by omega, fun r hr => ?_, ?_⟩
  · rcases List.mem_append.1 hr with hr | hr
    · have h1 := h.row r hr
      have h2 := h.rlt hr
      exact ⟨h1.1, by omega, (Heap.get_append_left (by rw [hl]; exact h2)).trans ((get_unset h1.2.1).trans h1.2.2)⟩
    · rw [List.mem_singleton] at hr
      subst hr
      refine ⟨hb, by show H.length ≠ H.length + 1; omega, ?_⟩
      show Heap.get _ H.length = _
      rw [← hl]
      exact (Heap.get_len_add _ _ 0).trans rfl
  · rw [List.map_append, List.nodup_append]
    refine ⟨h.dif, by simp, fun a ha b hb e => ?_⟩
    obtain ⟨r, hr, rfl⟩ := List.mem_map.1 ha
    have h2 := h.rlt hr
    simp only [List.map_cons, List.map_nil, List.mem_singleton] at hb
    omega
/-- the spine says of its addresses what it says -/
theorem wm_rows {R : List Rw} {n m : Nat} {σ : Sig} (hσ : ∀ t, t < n → σ t = some t) (h : n ≤ m) (hR : ∀ r ∈ R, r.1 < n) : L2 (WM σ m) (R.flatMap rwE) (R.flatMap rwE) := by
  refine L2.refl fun x hx => ?_
  obtain ⟨r, hr, hx⟩ := List.mem_flatMap.1 hx
  rw [rwE, List.mem_singleton] at hx
  subst hx
  have := hR r hr
  exact ⟨by show r.1 < m; omega, .inl ⟨r.1, r.2.1, hσ _ this, rfl⟩⟩
theorem vk_rows {H K : Heap} {b0 u c : Nat} {R : List Rw} {l : List Int} (h : VK H K) (hR : RowsAt K b0 u R) : VK H (K.set u none ++ [some ⟨l.flatMap nmE, true, 3, 1⟩, some ⟨(R ++ [(K.length, c, l)]).flatMap rwE, true, 24, 1⟩]) := by
  have hl : (K.set u none).length = K.length := by simp
  have h1 := VK.snoc (K := K.set u none) (b := ⟨l.flatMap nmE, true, 3, 1⟩) (L2.refl fun x hx => WM_flat (List.all_eq_true.1 (nmE_flat _) x hx))
  have h2 := VK.snoc (K := K.set u none ++ [some ⟨l.flatMap nmE, true, 3, 1⟩]) (b := ⟨(R ++ [(K.length, c, l)]).flatMap rwE, true, 24, 1⟩)
    (wm_rows (n := K.length + 2) (fun t ht => by simp [sg]; omega) (by simp) fun r hr => by
      rcases List.mem_append.1 hr with hr | hr
      · have := hR.rlt hr; omega
      · rw [List.mem_singleton] at hr; subst hr; simp only; omega)
  have := (h.unset.trans h1).trans h2
  rwa [List.append_assoc] at this
end Go.Proofs.Yteojpgmclplggaa
/- A list of areas that is drawn. -/
namespace Go.Proofs.Yteojpgmclplggaa
open Go.Am
set_option linter.unusedVariables false
set_option linter.unusedSimpArgs false
set_option maxRecDepth 100000
set_option maxHeartbeats 8000000
/-- what is drawn: a list of areas behind the caller's blocks -/
def PAks (H : Heap) (v : Value) (G : Heap) : Prop :=
  ∃ (R : List Ak) (u : Nat), v = .slice (some ⟨u, 0, none⟩) R.length 0 ∧ R.length ≤ 20 ∧ AksAt G u R ∧ VK H G ∧ KQ H G
structure RkI where
  k : Nat
  u : Nat
  R : List Ak
  d : Int
  a : Int
  s : Int
  G : Heap
structure RkInv (tc n cc : Nat) (H : Heap) (i : RkI) : Prop where
  cur : Cur i.G H.length tc n cc i.a i.s
  tl : tc < H.length
  sp : i.G.get i.u = some ⟨i.R.flatMap akE, true, 26, 3⟩
  lo : H.length < i.u
  row : ∀ r ∈ i.R, H.length < r.2.2.1 ∧ r.2.2.1 ≠ i.u ∧ r.2.2.2.2.length ≤ 20 ∧ i.G.get r.2.2.1 = some ⟨r.2.2.2.2.flatMap nmE, true, 3, 1⟩
  vk : VK H i.G
  kq : KQ H i.G
theorem get_set' {H : Heap} {t u : Nat} {b : Option Blk} (h : u ≠ t) : Heap.get (H.set t b) u = Heap.get H u := Heap.get_set_ne h
theorem RkInv.step {tc n cc : Nat} {H : Heap} {i : RkI} (h : RkInv tc n cc H i) (a s : Int) (ha : 0 ≤ a) : RkInv tc n cc H ⟨i.k, i.u, i.R, i.d, a, s, i.G.set H.length (curB tc n cc a s)⟩ := by
  have h1 := h.lo
  have h2 := h.cur.lt
  refine ⟨h.cur.step ha, h.tl, (get_set' (show i.u ≠ H.length by omega)).trans h.sp, h.lo, fun r hr => ?_, h.vk.trans (VK.set h2 (h.cur.wm a s)), ⟨by have := h.kq.1; simpa using this, fun t ht => (get_set' (by omega)).trans (h.kq.2 t ht)⟩⟩
  have hr' := h.row r hr
  exact ⟨hr'.1, hr'.2.1, hr'.2.2.1, (get_set' (by omega)).trans hr'.2.2.2⟩
theorem RkInv.start {H : Heap} {tc n : Nat} (h : Bytes H tc n) (cc k : Nat) (a s : Int) (ha : 0 ≤ a) : RkInv tc n cc H ⟨k, H.length + 1, [], 0, a, s, H ++ [curB tc n cc a s, some ⟨[], true, 26, 3⟩]⟩ := by
  refine ⟨h.curJ 0 rfl ha, h.lt, (Heap.get_len_add _ _ 1).trans rfl, by show H.length < H.length + 1; omega, fun r hr => absurd hr (by simp), ?_, KQ.app⟩
  have h1 := VK.snoc (K := H) (b := ⟨curX tc n cc a s, true, 47, 1⟩) (by
    have := h.lt
    exact ⟨⟨(show tc < H.length + 1 by omega), .inl ⟨tc, cc, by simp only [sg, show tc < H.length + 1 by omega, if_true], rfl⟩⟩, rfl, rfl, trivial⟩)
  have h2 := VK.snoc (K := H ++ [curB tc n cc a s]) (b := ⟨[], true, 26, 3⟩) trivial
  have := h1.trans h2
  rwa [List.append_assoc] at this
theorem akE_snoc (R : List Ak) (r : Ak) : (R ++ [r]).flatMap akE = R.flatMap akE ++ akE r := by rw [List.flatMap_append]; simp
theorem RkInv.lt {tc n cc : Nat} {H : Heap} {i : RkI} (h : RkInv tc n cc H i) : i.u < i.G.length := Heap.get_lt h.sp
theorem RkInv.rlt {tc n cc : Nat} {H : Heap} {i : RkI} (h : RkInv tc n cc H i) : ∀ r ∈ i.R, r.2.2.1 < i.G.length := fun r hr => Heap.get_lt (h.row r hr).2.2.2
theorem RkInv.next {tc n cc : Nat} {H : Heap} {i : RkI} (h : RkInv tc n cc H i) (k : Nat) (d x y : Int) (l : List Int) (hl : l.length ≤ 20) :
    RkInv tc n cc H ⟨k, i.G.length + 1, i.R ++ [(x, y, i.G.length, l.length, l)], d, i.a, i.s, i.G.set i.u none ++ [some ⟨l.flatMap nmE, true, 3, 1⟩, some ⟨(i.R ++ [(x, y, i.G.length, l.length, l)]).flatMap akE, true, 26, 3⟩]⟩ := by
  have h1 := h.lo
  have h2 := h.cur.lt
  have h3 := h.lt
  have hA := h.rlt
  have htl := h.tl
  have hgl : (i.G.set i.u none).length = i.G.length := by simp
  have hg : ∀ L t, t < i.G.length → t ≠ i.u → Heap.get (i.G.set i.u none ++ L) t = i.G.get t := fun L t ht hu => (Heap.get_append_left (by rw [hgl]; exact ht)).trans (get_unset hu)
  refine ⟨⟨(hg _ _ h2 (by omega)).trans h.cur.blk, by have := h.cur.code; simp; omega, h.cur.ne, h.cur.size, fun j hj => ?_, h.cur.pos⟩, h.tl, ?_, by show H.length < i.G.length + 1; omega, fun r hr => ?_, ?_, ⟨by have := h.kq.1; simp; omega, fun t ht => (hg _ t (by omega) (by omega)).trans (h.kq.2 t ht)⟩⟩
  · obtain ⟨b, b1, b2, b3⟩ := h.cur.bytes j hj
    exact ⟨b, b1, b2, (cells_of (hg _ _ (by omega) (by omega))).trans b3⟩
  · rw [← hgl]
    exact (Heap.get_len_add _ _ 1).trans rfl
  · rcases List.mem_append.1 hr with hr | hr
    · have g := h.row r hr
      have g' := hA r hr
      exact ⟨g.1, by show r.2.2.1 ≠ i.G.length + 1; omega, g.2.2.1, (hg _ _ g' g.2.1).trans g.2.2.2⟩
    · rw [List.mem_singleton] at hr
      subst hr
      refine ⟨by show H.length < i.G.length; omega, by show i.G.length ≠ i.G.length + 1; omega, hl, ?_⟩
      show Heap.get _ i.G.length = _
      rw [← hgl]
      exact (Heap.get_len_add _ _ 0).trans rfl
  · have v1 := VK.snoc (K := i.G.set i.u none) (b := ⟨l.flatMap nmE, true, 3, 1⟩) (L2.refl fun x hx => WM_flat (List.all_eq_true.1 (nmE_flat _) x hx))
    have v2 := VK.snoc (K := i.G.set i.u none ++ [some ⟨l.flatMap nmE, true, 3, 1⟩]) (b := ⟨(i.R ++ [(x, y, i.G.length, l.length, l)]).flatMap akE, true, 26, 3⟩)
      (wm_aks (n := i.G.length + 2) (fun t ht => by simp [sg]; omega) (by simp) fun r hr => by
        rcases List.mem_append.1 hr with hr | hr
        · have := hA r hr; omega
        · rw [List.mem_singleton] at hr; subst hr; simp only; omega)
    have := (h.vk.unset.trans v1).trans v2
    rwa [List.append_assoc] at this
/-- the new spine is the old one and an area more, however the blocks are numbered -/
theorem wl_akspine {K : Heap} {d p : Nat} {x y : Int} {R : List Ak} {l : List Int} {js : List (Option Nat)} {q : Nat} (hR : ∀ r ∈ R, r.2.2.1 < K.length) (hj : sg K.length js K.length = some (K.length + p)) (hs : ∀ t, t < K.length → sg K.length js t = some t) (hq : 1 ≤ q) :
    WL (sg K.length js) (K.length + q) (R.flatMap akE ++ akE (x, y, K.length, l.length, l)) (R.flatMap akE ++ [.int .i64 x, .int .i64 y, .slice (some ⟨K.length + p, 0, none⟩) l.length d]) := by
  have h1 : L2 (WM (sg K.length js) (K.length + q)) (R.flatMap akE) (R.flatMap akE) := wm_aks (n := K.length) hs (by omega) hR
  have h2 : L2 (WM (sg K.length js) (K.length + q)) [Value.int .i64 x, .int .i64 y, Value.slice (some ⟨K.length, 0, none⟩) l.length l.length] [.int .i64 x, .int .i64 y, Value.slice (some ⟨K.length + p, 0, none⟩) l.length d] :=
    ⟨rfl, rfl, ⟨by show K.length < K.length + q; omega, .inl ⟨_, d, hj, rfl⟩⟩, trivial⟩
  refine .inr ?_
  rw [List.take_of_length_le (by simp [akE])]
  exact h1.append h2
theorem RkInv.fin {tc n cc : Nat} {H : Heap} {i : RkI} (h : RkInv tc n cc H i) (hl : i.R.length ≤ 20) (c : Nat) : EndR H (PAks H) (.slice (some ⟨i.u, 0, none⟩) i.R.length c) i.G := by
  have hu := h.lt
  refine EndR.of (.slice (some ⟨i.u, 0, none⟩) i.R.length 0) i.G ⟨i.R, i.u, rfl, hl, ⟨⟨_, [], h.sp, by simp⟩, fun r hr => ?_⟩, h.vk, h.kq⟩ (fin_vk h.vk (by simp -dsimp -implicitDefEqProofs (disch := omega) [go_sem, -List.getD_eq_getElem?_getD, ite_yes, hu]))
  have g := h.row r hr
  exact ⟨⟨_, [], g.2.2.2, by simp⟩, by omega⟩
theorem drawRank_R {H : Heap} {tc n : Nat} (h : Bytes H tc n) (cc : Nat) : AFunR Try.prog 14 [.slice (some ⟨tc, 0, none⟩) n cc] H (PAks H) := by
  refine AFunR.of_body Try.func14 (by kernel_rfl) rfl (by kernel_rfl) (by simp [Try.ntmps14]) ?_
  have ht := h.lt
  simp -dsimp -implicitDefEqProofs (disch := omega) [go_sem, -List.getD_eq_getElem?_getD, ite_yes]
  refine ACall.via (pick_R (h.curJ 0 rfl (by omega)) (by omega) 6 (by omega)) ?_
  rintro _ _ ⟨r, rfl, r0, r1, a0, s0, q0, q0', rfl⟩
  obtain ⟨m, rfl⟩ : ∃ m : Nat, r = (m : Int) := ⟨r.toNat, by omega⟩
  have hst := RkInv.start h cc m a0 s0 (by omega)
  simp -dsimp -implicitDefEqProofs (disch := omega) [go_sem, -List.getD_eq_getElem?_getD, ite_yes]
  refine ALoop.intro (ι := RkI) (fun i => RkInv tc n cc H i ∧ i.R.length + i.k ≤ 5 ∧ 0 ≤ i.a ∧ i.a + 400 * i.k ≤ 3000 ∧ -10 + i.k ≤ i.d ∧ i.d + 10 * i.k ≤ 100) (fun i => [(3, .pointer (some ⟨H.length, 0, none⟩)), (4, .slice (some ⟨i.u, 0, none⟩) i.R.length 0), (5, .int .i64 i.d), (6, .int .i64 i.k)]) (fun i => i.G) (fun i => i.k) _ ⟨hst, by simp only [List.length_nil]; omega, by simp only; omega, by simp only; omega, by simp only; omega, by simp only; omega⟩ ?_ ?_
  · exact weakS_vk hst.vk (by simp -dsimp -implicitDefEqProofs (disch := omega) [go_sem, -List.getD_eq_getElem?_getD, ite_yes, ht])
  rintro i ⟨hi, i1, i2, i3, i4, i5⟩
  obtain ⟨k, u, R, d, a, s, G⟩ := i
  simp only at i1 i2 i3 i4 i5
  have hT := hi.cur.lt
  have hU := hi.lt
  have hlo := hi.lo
  simp only at hT hU hlo
  cases k with
  | succ k =>
    have e6 : ((k + 1 : Nat) : Int) - 1 = (k : Int) := by omega
    have hm : (0 : Int) < ((k + 1 : Nat) : Int) := by omega
    simp -dsimp -implicitDefEqProofs (disch := omega) [go_sem, -List.getD_eq_getElem?_getD, ite_yes, hm]
    refine ACall.via (pick_R (show Cur G H.length tc n cc a s from hi.cur) (by omega) 3 (by omega)) ?_
    rintro _ _ ⟨r, rfl, p0, p1, a1, s1, q1, q1', rfl⟩
    replace hi := hi.step a1 s1 (by omega)
    simp only at hi
    have eG : (G.set H.length (curB tc n cc a1 s1)).length = G.length := by simp
    generalize G.set H.length (curB tc n cc a1 s1) = G1 at *
    rw [← eG] at hT hU
    simp -dsimp -implicitDefEqProofs (disch := omega) [go_sem, -List.getD_eq_getElem?_getD, ite_yes]
    refine ACall.via (pick_R (show Cur G1 H.length tc n cc a1 s1 from hi.cur) (by omega) 24 (by omega)) ?_
    rintro _ _ ⟨w, rfl, w0, w1, a2, s2, q2, q2', rfl⟩
    replace hi := hi.step a2 s2 (by omega)
    simp only at hi
    have eG : (G1.set H.length (curB tc n cc a2 s2)).length = G1.length := by simp
    generalize G1.set H.length (curB tc n cc a2 s2) = G2 at *
    rw [← eG] at hT hU
    have wd : Int.tdiv w 23 = w / 23 := Int.tdiv_eq_ediv_of_nonneg w0
    simp -dsimp -implicitDefEqProofs (disch := omega) [go_sem, -List.getD_eq_getElem?_getD, ite_yes, wd]
    refine ACall.via (area_R (show Cur G2 H.length tc n cc a2 s2 from hi.cur) (by omega) (d + 1 + r - w / 23)) ?_
    rintro _ _ ⟨x, y, l, a3, s3, rfl, hl, q3, q3', rfl⟩
    replace hi := hi.step a3 s3 (by omega)
    simp only at hi
    have eG : (G2.set H.length (curB tc n cc a3 s3)).length = G2.length := by simp
    have eL : G2.length = (G2.set H.length (curB tc n cc a3 s3)).length := eG.symm
    rw [eL] at hT hU ⊢
    generalize G2.set H.length (curB tc n cc a3 s3) = G at *
    have nx := hi.next k (d + 1 + r - w / 23) x y l hl
    have hR := hi.rlt
    have hsp := hi.sp
    have hV := hi.vk
    simp only at nx hR hsp hV
    have hrf := akE_length R
    have hS : Sl akE G u R := ⟨_, [], hsp, by simp⟩
    have cR := hS.all (s := 3) (fun _ => rfl)
    have gR := fun L => (Heap.get_append_left (L := L) hU).trans hsp
    simp -dsimp -implicitDefEqProofs (disch := omega) [go_sem, -List.getD_eq_getElem?_getD, ite_yes, e6, hT, hU, cR, gR, hrf]
    refine ⟨by omega, ?_⟩
    refine LoopEnd.of _ ⟨nx, by simp only [List.length_append, List.length_singleton]; omega, by simp only; omega, by simp only; omega, by simp only; omega, by simp only; omega⟩ (by simp only; omega) ?_
    dsimp only
    refine weakS_vmk (K := G.set u none) (L' := [some ⟨l.flatMap nmE, true, 3, 1⟩, some ⟨(R ++ [(x, y, G.length, l.length, l)]).flatMap akE, true, 26, 3⟩]) hV.unset [some 0, some 2] rfl ?_ ?_
    rotate_left
    · simp -dsimp -implicitDefEqProofs (disch := omega) [go_sem, -List.getD_eq_getElem?_getD, ite_yes, hT, hU]
    simp -dsimp -implicitDefEqProofs (disch := omega) [go_sem, -List.getD_eq_getElem?_getD, ite_yes]
    refine ⟨.inl ⟨rfl, nmE_flat _⟩, ?_⟩
    exact wl_akspine (x := x) (y := y) (l := l) (d := l.length) (js := [some 0, some 2]) (p := 0) (q := 2) hR (by simp [sg]) (fun t ht => by simp [sg, ht]) (by omega)
  | zero =>
    simp -dsimp -implicitDefEqProofs (disch := omega) [go_sem, -List.getD_eq_getElem?_getD, ite_yes]
    refine ACall.via (one_R (show Cur G H.length tc n cc a s from hi.cur) (by omega) 24 (by omega)) ?_
    rintro _ _ ⟨b, rfl, a1, s1, q1, q1', rfl⟩
    replace hi := hi.step a1 s1 (by omega)
    simp only at hi
    have eG : (G.set H.length (curB tc n cc a1 s1)).length = G.length := by simp
    generalize G.set H.length (curB tc n cc a1 s1) = G1 at *
    rw [← eG] at hT hU
    cases b
    · simp -dsimp -implicitDefEqProofs (disch := omega) [go_sem, -List.getD_eq_getElem?_getD, ite_yes]
      exact hi.fin (by simp only; omega) _
    simp -dsimp -implicitDefEqProofs (disch := omega) [go_sem, -List.getD_eq_getElem?_getD, ite_yes]
    refine ALoop.intro (ι := RkI) (fun i => RkInv tc n cc H i ∧ i.R.length ≤ 9 ∧ 0 ≤ i.a ∧ i.a ≤ 3010 + 3 * i.R.length ∧ -10 ≤ i.d ∧ i.d ≤ 100 + i.R.length) (fun i => [(3, .pointer (some ⟨H.length, 0, none⟩)), (4, .slice (some ⟨i.u, 0, none⟩) i.R.length 0), (5, .int .i64 i.d)]) (fun i => i.G) (fun i => 9 - i.R.length) ⟨0, u, R, d, a1, s1, G1⟩ ⟨hi, by simp only; omega, by simp only; omega, by simp only; omega, by simp only; omega, by simp only; omega⟩ ?_ ?_
    · exact weakS_vk hi.vk (by simp -dsimp -implicitDefEqProofs (disch := omega) [go_sem, -List.getD_eq_getElem?_getD, ite_yes, hT, hU])
    clear i1 i2 i3 i4 i5 hT hU hlo hi q1 q1'
    rintro i ⟨hi, i1, i2, i3, i4, i5⟩
    obtain ⟨k, u, R, d, a, s, G⟩ := i
    simp only at i1 i2 i3 i4 i5
    have hT := hi.cur.lt
    have hU := hi.lt
    have hlo := hi.lo
    simp only at hT hU hlo
    simp -dsimp -implicitDefEqProofs (disch := omega) [go_sem, -List.getD_eq_getElem?_getD, ite_yes]
    refine ACall.via (pick_R (show Cur G H.length tc n cc a s from hi.cur) (by omega) 2 (by omega)) ?_
    rintro _ _ ⟨r, rfl, p0, p1, a1, s1, q1, q1', rfl⟩
    replace hi := hi.step a1 s1 (by omega)
    simp only at hi
    have eG : (G.set H.length (curB tc n cc a1 s1)).length = G.length := by simp
    generalize G.set H.length (curB tc n cc a1 s1) = G1 at *
    rw [← eG] at hT hU
    by_cases hlt : (R.length : Int) < 8 + r
    rotate_left
    · simp -dsimp -implicitDefEqProofs (disch := omega) [go_sem, -List.getD_eq_getElem?_getD, ite_yes, hlt]
      exact hi.fin (by simp only; omega) _
    have nx := hi.next k (d + 1) (d + 1) 1 [d + 1] (by simp)
    have hR := hi.rlt
    have hsp := hi.sp
    have hV := hi.vk
    simp only at nx hR hsp hV
    have hrf := akE_length R
    have hS : Sl akE G1 u R := ⟨_, [], hsp, by simp⟩
    have cR := hS.all (s := 3) (fun _ => rfl)
    have gR := fun L => (Heap.get_append_left (L := L) hU).trans hsp
    simp -dsimp -implicitDefEqProofs (disch := omega) [go_sem, -List.getD_eq_getElem?_getD, ite_yes, hlt, hT, hU, cR, gR, hrf]
    refine ⟨by omega, ?_⟩
    refine LoopEnd.of _ ⟨nx, by simp only [List.length_append, List.length_singleton]; omega, by simp only; omega, by simp only [List.length_append, List.length_singleton]; omega, by simp only; omega, by simp only [List.length_append, List.length_singleton]; omega⟩ (by simp only [List.length_append, List.length_singleton]; omega) ?_
    dsimp only
    refine weakS_vmk (K := G1.set u none) (L' := [some ⟨[d + 1].flatMap nmE, true, 3, 1⟩, some ⟨(R ++ [(d + 1, 1, G1.length, 1, [d + 1])]).flatMap akE, true, 26, 3⟩]) hV.unset [some 0, some 2] rfl ?_ ?_
    rotate_left
    · simp -dsimp -implicitDefEqProofs (disch := omega) [go_sem, -List.getD_eq_getElem?_getD, ite_yes, hT, hU]
    simp -dsimp -implicitDefEqProofs (disch := omega) [go_sem, -List.getD_eq_getElem?_getD, ite_yes]
    refine ⟨.inl ⟨rfl, rfl⟩, ?_⟩
    exact wl_akspine (x := d + 1) (y := 1) (l := [d + 1]) (d := 1) (js := [some 0, some 2]) (p := 0) (q := 2) hR (by simp [sg]) (fun t ht => by simp [sg, ht]) (by omega)
end Go.Proofs.Yteojpgmclplggaa
/- What FnLeakLosses draws: losses, hours and an order. -/
namespace Go.Proofs.Yteojpgmclplggaa
open Go.Am
set_option linter.unusedVariables false
set_option linter.unusedSimpArgs false
set_option maxRecDepth 100000
set_option maxHeartbeats 8000000
def PLU (H : Heap) (v : Value) (H' : Heap) : Prop := ∃ (lo ho b : List Int) (o : Nat), v = .tuple #[.slice (some ⟨H.length, 0, none⟩) lo.length lo.length, .slice (some ⟨H.length + 1, 0, none⟩) ho.length ho.length, .slice (some ⟨H.length + 2, o, none⟩) (b.drop o).length (b.drop o).length] ∧ lo.length ≤ 20 ∧ ho.length ≤ 20 ∧ b.length ≤ 20 ∧
  H' = H ++ [some ⟨lo.flatMap nmE, true, 3, 1⟩, some ⟨ho.flatMap nmE, true, 3, 1⟩, some ⟨b.flatMap nmE, true, 3, 1⟩]
theorem endLU {H L : Heap} (lo ho b : List Int) (o j0 j1 j2 u0 u1 u2 m c0 c1 c2 : Nat) (e0 : u0 = H.length + j0) (e1 : u1 = H.length + j1) (e2 : u2 = H.length + j2) (hm : m = b.length - o) (hn : jsOk [some j0, some j1, some j2] = true)
    (h0 : Heap.get L j0 = some ⟨lo.flatMap nmE, true, 3, 1⟩) (h1 : Heap.get L j1 = some ⟨ho.flatMap nmE, true, 3, 1⟩) (h2 : Heap.get L j2 = some ⟨b.flatMap nmE, true, 3, 1⟩) (hl : lo.length ≤ 20) (hh : ho.length ≤ 20) (hb : b.length ≤ 20) :
    EndR H (PLU H) (.tuple #[.slice (some ⟨u0, 0, none⟩) lo.length c0, .slice (some ⟨u1, 0, none⟩) ho.length c1, .slice (some ⟨u2, o, none⟩) m c2]) (H ++ L) := by
  subst e0 e1 e2
  have em : m = (b.drop o).length := by rw [List.length_drop]; exact hm
  subst em
  refine EndR.of (.tuple #[.slice (some ⟨H.length, 0, none⟩) lo.length lo.length, .slice (some ⟨H.length + 1, 0, none⟩) ho.length ho.length, .slice (some ⟨H.length + 2, o, none⟩) (b.drop o).length (b.drop o).length]) _ ⟨lo, ho, b, o, rfl, hl, hh, hb, rfl⟩ (fin_list [some j0, some j1, some j2] hn ?_ (by simp -dsimp -implicitDefEqProofs (disch := omega) [go_sem, -List.getD_eq_getElem?_getD, ite_yes, sg] <;> omega))
  simp only [wkL, h0, h1, h2]
  exact ⟨⟨trivial, trivial, id, .inl ⟨rfl, nmE_flat _⟩⟩, ⟨trivial, trivial, id, .inl ⟨rfl, nmE_flat _⟩⟩, ⟨trivial, trivial, id, .inl ⟨rfl, nmE_flat _⟩⟩, trivial⟩
structure LkI where
  k : Nat
  l : List Int
  a : Int
  s : Int
theorem nmI_set (s : List Int) (x : Int) {q : Nat} (hq : q < s.length) : (s.flatMap nmE).set q (.int .i64 x) = (s.set q x).flatMap nmE := by
  have := set_cell (f := nmE) (s := 1) (fun _ => rfl) x 0 hq (j := 0) (by omega) (v := .int .i64 x) rfl
  rwa [Nat.mul_one, Nat.add_zero] at this
theorem nmI_cell (s : List Int) {q : Nat} (hq : q < s.length) : List.take 1 (List.drop q (s.flatMap nmE)) = [.int .i64 (s.getD q 0)] := by
  rw [nmI_drop, nmI_take, List.drop_eq_getElem_cons hq, List.getD_eq_getElem?_getD, List.getElem?_eq_getElem hq]; rfl
theorem drawLost_R {H : Heap} {tc n : Nat} (h : Bytes H tc n) (cc : Nat) : AFunR Try.prog 8 [.slice (some ⟨tc, 0, none⟩) n cc] H (PLU H) := by
  refine AFunR.of_body Try.func8 (by kernel_rfl) rfl (by kernel_rfl) (by simp [Try.ntmps8]) ?_
  have ht := h.lt
  simp -dsimp -implicitDefEqProofs (disch := omega) [go_sem, -List.getD_eq_getElem?_getD, ite_yes]
  refine ACall.via (repairs_R (h.curJ 0 rfl (by omega)) (by omega)) ?_
  rintro _ _ ⟨lo, ho, a1, s1, rfl, hl, hh, q1, q1', rfl⟩
  simp -dsimp -implicitDefEqProofs (disch := omega) [go_sem, -List.getD_eq_getElem?_getD, ite_yes]
  refine ALoop.intro (ι := LkI) (fun i => i.l.length = i.k ∧ i.k ≤ lo.length ∧ 0 ≤ i.a ∧ i.a ≤ 1000 + 2 * i.k) (fun i => [(5, .pointer (some ⟨H.length, 0, none⟩)), (6, .slice (some ⟨H.length + 1, 0, none⟩) lo.length lo.length), (7, .slice (some ⟨H.length + 2, 0, none⟩) ho.length ho.length), (8, .slice (some ⟨H.length + 3, 0, none⟩) i.l.length 0), (9, .int .i64 i.k)])
    (fun i => H ++ [curB tc n cc i.a i.s, some ⟨lo.flatMap nmE, true, 3, 1⟩, some ⟨ho.flatMap nmE, true, 3, 1⟩, some ⟨i.l.flatMap nmE, true, 3, 1⟩]) (fun i => lo.length - i.k) ⟨0, [], a1, s1⟩ ⟨rfl, by simp only; omega, by simp only; omega, by simp only; omega⟩ ?_ ?_
  · refine weakS_mk [some 0, some 1, some 2, some 3] rfl ?_ (by simp -dsimp -implicitDefEqProofs (disch := omega) [go_sem, -List.getD_eq_getElem?_getD, ite_yes, ht])
    simp -dsimp -implicitDefEqProofs (disch := omega) [go_sem, -List.getD_eq_getElem?_getD, ite_yes]
    exact ⟨.inr (h.wms _ _ _ _ _), .inl ⟨rfl, nmE_flat _⟩, .inl ⟨rfl, nmE_flat _⟩, .inl ⟨rfl, rfl⟩⟩
  rintro ⟨k, o, a, s⟩ ⟨i1, i2, i3, i4⟩
  simp only at i1 i2 i3 i4
  subst i1
  have lf := nmE_length o
  by_cases hk : o.length < lo.length
  · have hki : (o.length : Int) < (lo.length : Int) := by omega
    simp -dsimp -implicitDefEqProofs (disch := omega) [go_sem, -List.getD_eq_getElem?_getD, ite_yes, hk, hki]
    refine ACall.via (pick_R (h.curJ 0 rfl (by omega)) (by omega) ((o.length : Int) + 1) (by omega)) ?_
    rintro _ _ ⟨y, rfl, y0, y1, a6, s6, q6, q6', rfl⟩
    obtain ⟨q, rfl⟩ : ∃ q : Nat, y = (q : Int) := ⟨y.toNat, by omega⟩
    have hq : q ≤ o.length := by omega
    have hqi : (q : Int) ≤ (o.length : Int) := by omega
    have n1 := nmI_take o q
    have n2 := nmI_drop o q
    have n3 : (List.flatMap nmE (List.take q o)).length = q := by rw [nmE_length, List.length_take]; omega
    have n4 : (List.flatMap nmE (List.drop q o)).length = o.length - q := by rw [nmE_length, List.length_drop]; omega
    have n5 : List.take (o.length - q) (List.flatMap nmE (List.drop q o)) = List.flatMap nmE (List.drop q o) := List.take_of_length_le (by omega)
    have e4 : q + 1 + (o.length - q) = o.length + 1 := by omega
    obtain ⟨o', ho'⟩ : ∃ o', o.take q ++ (o.length : Int) :: o.drop q = o' := ⟨_, rfl⟩
    have en : o'.length = o.length + 1 := by rw [← ho', List.length_append, List.length_cons, List.length_take, List.length_drop]; omega
    have ef : o'.flatMap nmE = (o.take q).flatMap nmE ++ Value.int .i64 (o.length : Int) :: (o.drop q).flatMap nmE := by rw [← ho']; simp [nmE]
    simp -dsimp -implicitDefEqProofs (disch := omega) [go_sem, -List.getD_eq_getElem?_getD, ite_yes]
    refine ADraw.mid [(5, .pointer (some ⟨H.length, 0, none⟩)), (6, .slice (some ⟨H.length + 1, 0, none⟩) lo.length lo.length), (7, .slice (some ⟨H.length + 2, 0, none⟩) ho.length ho.length), (8, .slice (some ⟨H.length + 3, 0, none⟩) (o.length + 1) 0), (9, .int .i64 o.length)] (H ++ [curB tc n cc a6 s6, some ⟨lo.flatMap nmE, true, 3, 1⟩, some ⟨ho.flatMap nmE, true, 3, 1⟩, some ⟨o'.flatMap nmE, true, 3, 1⟩]) ?_ ?_
    · skip
      refine ADraw.any (H ++ [curB tc n cc a6 s6, some ⟨lo.flatMap nmE, true, 3, 1⟩, some ⟨ho.flatMap nmE, true, 3, 1⟩, some ⟨o.flatMap nmE, true, 3, 1⟩]) (by kernel_rfl) (by first | exact SubH.refl | exact SubH.app | exact SubH.both (by simp [subL])) ?_
      refine AAny.takes (fuel := 6) (by kernel_rfl) (by kernel_rfl) [1, 2, 3, 5, 8, 9, 10] (by kernel_rfl) (by kernel_rfl) ?_
      simp -dsimp -implicitDefEqProofs (disch := omega) [go_sem, -List.getD_eq_getElem?_getD, ite_yes, ht, hk, hki, hq, hqi, lf, n1, n2, n3, n4, n5]
      refine AAny.two 5 0 6 (by kernel_rfl) (by kernel_rfl) (by kernel_rfl) ?_ ?_
      · simp -dsimp -implicitDefEqProofs (disch := omega) [go_sem, -List.getD_eq_getElem?_getD, ite_yes, ht, hk, hki, hq, hqi, lf, n1, n2, n3, n4, n5]
        first | refine AAt.of (by first | exact SubH.refl | exact SubH.app | exact SubH.both (by simp [subL])) ?_ | (refine ⟨?_, AAt.of (by first | exact SubH.refl | exact SubH.app | exact SubH.both (by simp [subL])) ?_⟩; · omega)
        refine AAny.two 4 4 6 (by kernel_rfl) (by kernel_rfl) (by kernel_rfl) ?_ ?_
        · simp -dsimp -implicitDefEqProofs (disch := omega) [go_sem, -List.getD_eq_getElem?_getD, ite_yes, ht, hk, hki, hq, hqi, lf, n1, n2, n3, n4, n5]
          first | refine AAt.of (by first | exact SubH.refl | exact SubH.app | exact SubH.both (by simp [subL])) ?_ | (refine ⟨?_, AAt.of (by first | exact SubH.refl | exact SubH.app | exact SubH.both (by simp [subL])) ?_⟩; · omega)
          refine AAny.one 3 6 (by kernel_rfl) (by kernel_rfl) (by kernel_rfl) ?_
          simp -dsimp -implicitDefEqProofs (disch := omega) [go_sem, -List.getD_eq_getElem?_getD, ite_yes, ht, hk, hki, hq, hqi, lf, n1, n2, n3, n4, n5]
          first | refine AAt.of (by first | exact SubH.refl | exact SubH.app | exact SubH.both (by simp [subL])) ?_ | (refine ⟨?_, AAt.of (by first | exact SubH.refl | exact SubH.app | exact SubH.both (by simp [subL])) ?_⟩; · omega)
          refine AAny.one 2 7 (by kernel_rfl) (by kernel_rfl) (by kernel_rfl) ?_
          simp -dsimp -implicitDefEqProofs (disch := omega) [go_sem, -List.getD_eq_getElem?_getD, ite_yes, ht, hk, hki, hq, hqi, lf, n1, n2, n3, n4, n5]
          first | refine AAt.of (by first | exact SubH.refl | exact SubH.app | exact SubH.both (by simp [subL])) ?_ | (refine ⟨?_, AAt.of (by first | exact SubH.refl | exact SubH.app | exact SubH.both (by simp [subL])) ?_⟩; · omega)
          refine AAny.one 1 11 (by kernel_rfl) (by kernel_rfl) (by kernel_rfl) ?_
          simp -dsimp -implicitDefEqProofs (disch := omega) [go_sem, -List.getD_eq_getElem?_getD, ite_yes, ht, hk, hki, hq, hqi, lf, n1, n2, n3, n4, n5]
          first | refine AAt.of (by first | exact SubH.refl | exact SubH.app | exact SubH.both (by simp [subL])) ?_ | (refine ⟨?_, AAt.of (by first | exact SubH.refl | exact SubH.app | exact SubH.both (by simp [subL])) ?_⟩; · omega)
          refine AAny.takes (fuel := 0) (by kernel_rfl) (by kernel_rfl) [12] (by kernel_rfl) (by kernel_rfl) ?_
          simp -dsimp -implicitDefEqProofs (disch := omega) [go_sem, -List.getD_eq_getElem?_getD, ite_yes, ht, hk, hki, hq, hqi, lf, n1, n2, n3, n4, n5]
          refine AAny.done (by kernel_rfl) ?_
          simp -dsimp -implicitDefEqProofs (disch := omega) [go_sem, -List.getD_eq_getElem?_getD, ite_yes, ht, hk, hki, hq, hqi, lf, n1, n2, n3, n4, n5]
          refine ⟨weakS_mk [some 0, some 1, some 2, some 8] rfl ?_ (by simp -dsimp -implicitDefEqProofs (disch := omega) [go_sem, -List.getD_eq_getElem?_getD, ite_yes, ht, e4])⟩
          simp -dsimp -implicitDefEqProofs (disch := omega) [go_sem, -List.getD_eq_getElem?_getD, ite_yes, ht, hk, hki, hq, hqi, lf, n1, n2, n3, n4, n5]
          exact ⟨.inr (h.wms _ _ _ _ _), .inl ⟨rfl, nmE_flat _⟩, .inl ⟨rfl, nmE_flat _⟩, .inl ⟨ef, ef ▸ nmE_flat o'⟩⟩
        · simp -dsimp -implicitDefEqProofs (disch := omega) [go_sem, -List.getD_eq_getElem?_getD, ite_yes, ht, hk, hki, hq, hqi, lf, n1, n2, n3, n4, n5]
          first | refine AAt.of (by first | exact SubH.refl | exact SubH.app | exact SubH.both (by simp [subL])) ?_ | (refine ⟨?_, AAt.of (by first | exact SubH.refl | exact SubH.app | exact SubH.both (by simp [subL])) ?_⟩; · omega)
          refine AAny.one 3 4 (by kernel_rfl) (by kernel_rfl) (by kernel_rfl) ?_
          simp -dsimp -implicitDefEqProofs (disch := omega) [go_sem, -List.getD_eq_getElem?_getD, ite_yes, ht, hk, hki, hq, hqi, lf, n1, n2, n3, n4, n5]
          first | refine AAt.of (by first | exact SubH.refl | exact SubH.app | exact SubH.both (by simp [subL])) ?_ | (refine ⟨?_, AAt.of (by first | exact SubH.refl | exact SubH.app | exact SubH.both (by simp [subL])) ?_⟩; · omega)
          refine AAny.one 2 7 (by kernel_rfl) (by kernel_rfl) (by kernel_rfl) ?_
          simp -dsimp -implicitDefEqProofs (disch := omega) [go_sem, -List.getD_eq_getElem?_getD, ite_yes, ht, hk, hki, hq, hqi, lf, n1, n2, n3, n4, n5]
          first | refine AAt.of (by first | exact SubH.refl | exact SubH.app | exact SubH.both (by simp [subL])) ?_ | (refine ⟨?_, AAt.of (by first | exact SubH.refl | exact SubH.app | exact SubH.both (by simp [subL])) ?_⟩; · omega)
          refine AAny.one 1 11 (by kernel_rfl) (by kernel_rfl) (by kernel_rfl) ?_
          simp -dsimp -implicitDefEqProofs (disch := omega) [go_sem, -List.getD_eq_getElem?_getD, ite_yes, ht, hk, hki, hq, hqi, lf, n1, n2, n3, n4, n5]
          first | refine AAt.of (by first | exact SubH.refl | exact SubH.app | exact SubH.both (by simp [subL])) ?_ | (refine ⟨?_, AAt.of (by first | exact SubH.refl | exact SubH.app | exact SubH.both (by simp [subL])) ?_⟩; · omega)
          refine AAny.takes (fuel := 0) (by kernel_rfl) (by kernel_rfl) [12] (by kernel_rfl) (by kernel_rfl) ?_
          simp -dsimp -implicitDefEqProofs (disch := omega) [go_sem, -List.getD_eq_getElem?_getD, ite_yes, ht, hk, hki, hq, hqi, lf, n1, n2, n3, n4, n5]
          refine AAny.done (by kernel_rfl) ?_
          simp -dsimp -implicitDefEqProofs (disch := omega) [go_sem, -List.getD_eq_getElem?_getD, ite_yes, ht, hk, hki, hq, hqi, lf, n1, n2, n3, n4, n5]
          refine ⟨weakS_mk [some 0, some 1, some 2, some 8] rfl ?_ (by simp -dsimp -implicitDefEqProofs (disch := omega) [go_sem, -List.getD_eq_getElem?_getD, ite_yes, ht, e4])⟩
          simp -dsimp -implicitDefEqProofs (disch := omega) [go_sem, -List.getD_eq_getElem?_getD, ite_yes, ht, hk, hki, hq, hqi, lf, n1, n2, n3, n4, n5]
          exact ⟨.inr (h.wms _ _ _ _ _), .inl ⟨rfl, nmE_flat _⟩, .inl ⟨rfl, nmE_flat _⟩, .inl ⟨ef, ef ▸ nmE_flat o'⟩⟩
      · simp -dsimp -implicitDefEqProofs (disch := omega) [go_sem, -List.getD_eq_getElem?_getD, ite_yes, ht, hk, hki, hq, hqi, lf, n1, n2, n3, n4, n5]
        first | refine AAt.of (by first | exact SubH.refl | exact SubH.app | exact SubH.both (by simp [subL])) ?_ | (refine ⟨?_, AAt.of (by first | exact SubH.refl | exact SubH.app | exact SubH.both (by simp [subL])) ?_⟩; · omega)
        refine AAny.one 4 0 (by kernel_rfl) (by kernel_rfl) (by kernel_rfl) ?_
        simp -dsimp -implicitDefEqProofs (disch := omega) [go_sem, -List.getD_eq_getElem?_getD, ite_yes, ht, hk, hki, hq, hqi, lf, n1, n2, n3, n4, n5]
        first | refine AAt.of (by first | exact SubH.refl | exact SubH.app | exact SubH.both (by simp [subL])) ?_ | (refine ⟨?_, AAt.of (by first | exact SubH.refl | exact SubH.app | exact SubH.both (by simp [subL])) ?_⟩; · omega)
        refine AAny.one 3 4 (by kernel_rfl) (by kernel_rfl) (by kernel_rfl) ?_
        simp -dsimp -implicitDefEqProofs (disch := omega) [go_sem, -List.getD_eq_getElem?_getD, ite_yes, ht, hk, hki, hq, hqi, lf, n1, n2, n3, n4, n5]
        first | refine AAt.of (by first | exact SubH.refl | exact SubH.app | exact SubH.both (by simp [subL])) ?_ | (refine ⟨?_, AAt.of (by first | exact SubH.refl | exact SubH.app | exact SubH.both (by simp [subL])) ?_⟩; · omega)
        refine AAny.one 2 7 (by kernel_rfl) (by kernel_rfl) (by kernel_rfl) ?_
        simp -dsimp -implicitDefEqProofs (disch := omega) [go_sem, -List.getD_eq_getElem?_getD, ite_yes, ht, hk, hki, hq, hqi, lf, n1, n2, n3, n4, n5]
        first | refine AAt.of (by first | exact SubH.refl | exact SubH.app | exact SubH.both (by simp [subL])) ?_ | (refine ⟨?_, AAt.of (by first | exact SubH.refl | exact SubH.app | exact SubH.both (by simp [subL])) ?_⟩; · omega)
        refine AAny.one 1 11 (by kernel_rfl) (by kernel_rfl) (by kernel_rfl) ?_
        simp -dsimp -implicitDefEqProofs (disch := omega) [go_sem, -List.getD_eq_getElem?_getD, ite_yes, ht, hk, hki, hq, hqi, lf, n1, n2, n3, n4, n5]
        first | refine AAt.of (by first | exact SubH.refl | exact SubH.app | exact SubH.both (by simp [subL])) ?_ | (refine ⟨?_, AAt.of (by first | exact SubH.refl | exact SubH.app | exact SubH.both (by simp [subL])) ?_⟩; · omega)
        refine AAny.takes (fuel := 0) (by kernel_rfl) (by kernel_rfl) [12] (by kernel_rfl) (by kernel_rfl) ?_
        simp -dsimp -implicitDefEqProofs (disch := omega) [go_sem, -List.getD_eq_getElem?_getD, ite_yes, ht, hk, hki, hq, hqi, lf, n1, n2, n3, n4, n5]
        refine AAny.done (by kernel_rfl) ?_
        simp -dsimp -implicitDefEqProofs (disch := omega) [go_sem, -List.getD_eq_getElem?_getD, ite_yes, ht, hk, hki, hq, hqi, lf, n1, n2, n3, n4, n5]
        refine ⟨weakS_mk [some 0, some 1, some 2, some 8] rfl ?_ (by simp -dsimp -implicitDefEqProofs (disch := omega) [go_sem, -List.getD_eq_getElem?_getD, ite_yes, ht, e4])⟩
        simp -dsimp -implicitDefEqProofs (disch := omega) [go_sem, -List.getD_eq_getElem?_getD, ite_yes, ht, hk, hki, hq, hqi, lf, n1, n2, n3, n4, n5]
        exact ⟨.inr (h.wms _ _ _ _ _), .inl ⟨rfl, nmE_flat _⟩, .inl ⟨rfl, nmE_flat _⟩, .inl ⟨ef, ef ▸ nmE_flat o'⟩⟩
    simp -dsimp -implicitDefEqProofs (disch := omega) [go_sem, -List.getD_eq_getElem?_getD, ite_yes]
    refine LoopEnd.of ⟨o.length + 1, o', a6, s6⟩ ⟨en, by simp only; omega, by simp only; omega, by simp only; omega⟩ (by simp only; omega) (weakS_mk [some 0, some 1, some 2, some 3] rfl ?_ (by simp -dsimp -implicitDefEqProofs (disch := omega) [go_sem, -List.getD_eq_getElem?_getD, ite_yes, ht, en]))
    simp -dsimp -implicitDefEqProofs (disch := omega) [go_sem, -List.getD_eq_getElem?_getD, ite_yes]
    exact ⟨.inr (h.wms _ _ _ _ _), .inl ⟨rfl, nmE_flat _⟩, .inl ⟨rfl, nmE_flat _⟩, .inl ⟨rfl, nmE_flat _⟩⟩
  have hki : ¬ (o.length : Int) < (lo.length : Int) := by omega
  by_cases h0 : 0 < o.length
  rotate_left
  · have h0i : ¬ (0 : Int) < (o.length : Int) := by omega
    simp -dsimp -implicitDefEqProofs (disch := omega) [go_sem, -List.getD_eq_getElem?_getD, ite_yes, hk, hki, h0, h0i]
    exact endLU lo ho o 0 1 2 3 _ _ _ _ _ _ _ rfl rfl rfl rfl rfl rfl rfl rfl (by omega) (by omega) (by omega)
  have h0i : (0 : Int) < (o.length : Int) := by omega
  have h1i : (1 : Int) ≤ (o.length : Int) := by omega
  have h1n : 1 ≤ o.length := h0
  simp -dsimp -implicitDefEqProofs (disch := omega) [go_sem, -List.getD_eq_getElem?_getD, ite_yes, hk, hki, h0, h0i]
  refine ACall.via (one_R (h.curJ 0 rfl (by omega)) (by omega) 12 (by omega)) ?_
  rintro _ _ ⟨b7, rfl, a7, s7, q7, q7', rfl⟩
  cases b7
  · simp -dsimp -implicitDefEqProofs (disch := omega) [go_sem, -List.getD_eq_getElem?_getD, ite_yes, h0, h0i]
    refine ACall.via (one_R (h.curJ 0 rfl (by omega)) (by omega) 24 (by omega)) ?_
    rintro _ _ ⟨b8, rfl, a8, s8, q8, q8', rfl⟩
    cases b8
    · simp -dsimp -implicitDefEqProofs (disch := omega) [go_sem, -List.getD_eq_getElem?_getD, ite_yes, h0, h0i]
      exact endLU lo ho o 0 1 2 3 _ _ _ _ _ _ _ rfl rfl rfl rfl rfl rfl rfl rfl (by omega) (by omega) (by omega)
    · simp -dsimp -implicitDefEqProofs (disch := omega) [go_sem, -List.getD_eq_getElem?_getD, ite_yes, h0, h0i, h1i, h1n, lf]
      exact endLU lo ho o 1 1 2 3 _ _ _ _ _ _ _ rfl rfl rfl rfl rfl rfl rfl rfl (by omega) (by omega) (by omega)
  obtain ⟨z, hz⟩ : ∃ z, o.length = z + 1 := ⟨o.length - 1, by omega⟩
  have hzl : z < o.length := by omega
  have cz := nmI_cell o hzl
  generalize o.getD z 0 = w at cz
  have hzi : (o.length : Int) - 1 = (z : Int) := by omega
  have hzl' : (z : Int) < (o.length : Int) := by omega
  simp -dsimp -implicitDefEqProofs (disch := omega) [go_sem, -List.getD_eq_getElem?_getD, ite_yes, h0, h0i, hzi, hzl, hzl', cz, lf]
  refine ACall.via (among_R (h.curJ 0 rfl (by omega)) (by omega) [-1, o.length, w] (by simp) (by simp) _ _ (by omega) (Sl.nth 4 rfl rfl)) ?_
  rintro _ _ ⟨x, rfl, xm, a5, s5, q5, q5', rfl⟩
  have nz := nmI_set o x h0
  have ll : (o.set 0 x).length = o.length := by simp
  have lf2 := nmE_length (o.set 0 x)
  generalize o.set 0 x = o' at nz ll lf2
  simp -dsimp -implicitDefEqProofs (disch := omega) [go_sem, -List.getD_eq_getElem?_getD, ite_yes, h0, h0i, nz, lf]
  refine ACall.via (one_R (h.curJ 0 rfl (by omega)) (by omega) 24 (by omega)) ?_
  rintro _ _ ⟨b8, rfl, a8, s8, q8, q8', rfl⟩
  cases b8
  · simp -dsimp -implicitDefEqProofs (disch := omega) [go_sem, -List.getD_eq_getElem?_getD, ite_yes, h0, h0i]
    exact endLU lo ho o' 0 1 2 3 _ _ _ _ _ _ _ rfl rfl rfl (by omega) rfl rfl rfl rfl (by omega) (by omega) (by omega)
  · simp -dsimp -implicitDefEqProofs (disch := omega) [go_sem, -List.getD_eq_getElem?_getD, ite_yes, h0, h0i, h1i, h1n, lf2, ll]
    exact endLU lo ho o' 1 1 2 3 _ _ _ _ _ _ _ rfl rfl rfl (by omega) rfl rfl rfl rfl (by omega) (by omega) (by omega)
end Go.Proofs.Yteojpgmclplggaa
/- RankAreas: both sides. -/
namespace Go.Proofs.Yteojpgmclplggaa
open Go.Am
set_option linter.unusedVariables false
set_option linter.unusedSimpArgs false
set_option maxRecDepth 100000
set_option maxHeartbeats 8000000
def idsTo (R : List Ak) (k : Nat) : List Int := (R.take k).map (·.1)
theorem idsTo_next {R : List Ak} {k : Nat} (h : k < R.length) : idsTo R (k + 1) = idsTo R k ++ [(R.getD k akD).1] := by
  unfold idsTo
  rw [List.take_succ_eq_append_getElem h, List.map_append, List.getD_eq_getElem?_getD, List.getElem?_eq_getElem h]; rfl
theorem idsTo_length {R : List Ak} {k : Nat} (h : k ≤ R.length) : (idsTo R k).length = k := by unfold idsTo; rw [List.length_map, List.length_take]; omega
theorem rankB_len {R : List Ak} (h : 8 < R.length) : rankB R = false := by
  unfold rankB
  rw [decide_eq_false (p := R.length ≤ 8) (by omega), Bool.false_and]
def rankN (R : List Ak) : List Int := idsTo (sortK moreK R) R.length
theorem rankN_length (R : List Ak) : (rankN R).length = R.length := by
  have : (sortK moreK R).length = R.length := ordK_length moreK R _
  exact idsTo_length (by omega)
theorem iRank_bad (R : List Ak) (hl : R.length ≤ 1048577) (hg : rankB R = false) (c : Nat) (H : Heap) (t : Nat) (hS : AksAt H t R) :
    AFunC Try.prog 15 [.slice (some ⟨t, 0, none⟩) R.length c] H (.tuple #[.slice none 0 0, .bool false]) H := by
  refine AFunC.of_body Try.func15 (by kernel_rfl) rfl (by kernel_rfl) (by simp [Try.ntmps15]) ?_
  have ht := hS.sp.lt
  have cs := fun k hk => hS.sp.cells (s := 3) (fun _ => rfl) akD k hk
  have c0 := fun k hk => hS.sp.cell (s := 3) (fun _ => rfl) akD k 0 hk (by omega)
  simp only [akE, Nat.add_zero] at cs c0
  by_cases h8 : 8 < R.length
  · have h8i : (8 : Int) < (R.length : Int) := by omega
    simp -dsimp -implicitDefEqProofs (disch := omega) [go_sem, -List.getD_eq_getElem?_getD, ite_yes, h8, h8i]
    exact fin_flat0 rfl rfl
  have h8i : ¬ (8 : Int) < (R.length : Int) := by omega
  simp -dsimp -implicitDefEqProofs (disch := omega) [go_sem, -List.getD_eq_getElem?_getD, ite_yes, h8, h8i]
  refine ALoop.intro (ι := Nat) (fun k => k ≤ R.length ∧ rankTo R k) (fun k => [(0, .slice (some ⟨t, 0, none⟩) R.length c), (13, .slice (some ⟨t, 0, none⟩) R.length c), (14, .int .i64 R.length), (15, .int .i64 k)]) (fun _ => H) (fun k => R.length - k) 0 ⟨by omega, fun i hi => by omega⟩ ?_ ?_
  · exact weakS_same (by simp -dsimp -implicitDefEqProofs (disch := omega) [go_sem, -List.getD_eq_getElem?_getD, ite_yes, ht])
  rintro k ⟨hk, hf⟩
  by_cases hlt : k < R.length
  rotate_left
  · obtain rfl : k = R.length := by omega
    exact absurd hg (by rw [rankB, decide_eq_true hf, decide_eq_true (show R.length ≤ 8 by omega)]; simp)
  have hlti : (k : Int) < (R.length : Int) := by omega
  have k1 := cs k hlt
  obtain ⟨hn, hnl⟩ := hS.ns _ (akmem hlt)
  have hix : rankIx R k = (okAk (R.getD k akD) && (decide (k = 0) || decide ((R.getD (k - 1) akD).1 < (R.getD k akD).1))) := rfl
  have kp := fun (hk0 : 0 < k) => c0 (k - 1) (by omega)
  generalize R.getD k akD = r at *
  have A := fun L => validArea_A r.1 r.2.1 r.2.2.2.2 hnl r.2.2.2.1 (roH (H ++ L)) r.2.2.1 hn.app.ro
  have hrt := hn.lt
  simp -dsimp -implicitDefEqProofs (disch := omega) [go_sem, -List.getD_eq_getElem?_getD, ite_yes, hlt, hlti, k1, ht, hrt]
  refine ADraw.quiet (by kernel_rfl) (by kernel_rfl) (by kernel_rfl) ?_
  simp -dsimp -implicitDefEqProofs (disch := omega) [go_sem, -List.getD_eq_getElem?_getD, ite_yes, hlt, hlti, k1, ht, hrt]
  refine ACallQ.of (A _) rfl ?_
  cases hv : areaB r.1 r.2.1 r.2.2.2.2
  · simp -dsimp -implicitDefEqProofs (disch := omega) [go_sem, -List.getD_eq_getElem?_getD, ite_yes]
    exact fin_flat rfl rfl
  rcases Nat.eq_zero_or_pos k with h0 | h0
  · subst h0
    simp -dsimp -implicitDefEqProofs (disch := omega) [go_sem, -List.getD_eq_getElem?_getD, ite_yes]
    exact LoopEnd.of 1 ⟨by omega, hf.next (by rw [hix, okAk, hv]; rfl)⟩ (by omega) (weakS_drop (by simp -dsimp -implicitDefEqProofs (disch := omega) [go_sem, -List.getD_eq_getElem?_getD, ite_yes, ht]))
  have h0i : (0 : Int) < (k : Int) := by omega
  obtain ⟨j, rfl⟩ : ∃ j, k = j + 1 := ⟨k - 1, by omega⟩
  have kp := kp h0
  rw [Nat.add_sub_cancel] at kp hix
  have hj : j < R.length := by omega
  have hji : (j : Int) < (R.length : Int) := by omega
  by_cases hc : r.1 ≤ (R.getD j akD).1
  · generalize R.getD j akD = q at *
    simp -dsimp -implicitDefEqProofs (disch := omega) [go_sem, -List.getD_eq_getElem?_getD, ite_yes, hlt, hlti, h0, h0i, kp, ht, hj, hji, hc]
    exact fin_flat rfl rfl
  · have hix' : rankIx R (j + 1) = true := by rw [hix, okAk, hv, decide_eq_true (p := (R.getD j akD).1 < r.1) (by omega)]; simp
    generalize R.getD j akD = q at *
    simp -dsimp -implicitDefEqProofs (disch := omega) [go_sem, -List.getD_eq_getElem?_getD, ite_yes, hlt, hlti, h0, h0i, kp, ht, hj, hji, hc]
    exact LoopEnd.of (j + 1 + 1) ⟨by omega, hf.next hix'⟩ (by omega) (weakS_drop (by simp -dsimp -implicitDefEqProofs (disch := omega) [go_sem, -List.getD_eq_getElem?_getD, ite_yes, ht]))
theorem iRank_good (R : List Ak) (hg : rankB R = true) (c : Nat) (H : Heap) (t : Nat) (hS : AksAt H t R) :
    AFunC Try.prog 15 [.slice (some ⟨t, 0, none⟩) R.length c] H (.tuple #[.slice (some ⟨H.length, 0, none⟩) (rankN R).length 0, .bool true]) (H ++ [some ⟨(rankN R).flatMap nmE, true, 3, 1⟩]) := by
  refine AFunC.of_body Try.func15 (by kernel_rfl) rfl (by kernel_rfl) (by simp [Try.ntmps15]) ?_
  have ht := hS.sp.lt
  obtain ⟨hl8, hAr⟩ := rankB_at hg
  have hgt : ∀ k, k < R.length → rankIx R k = true := by
    have := hg
    simp only [rankB, Bool.and_eq_true, decide_eq_true_eq] at this
    exact this.2
  have cs := fun k hk => hS.sp.cells (s := 3) (fun _ => rfl) akD k hk
  have c0 := fun k hk => hS.sp.cell (s := 3) (fun _ => rfl) akD k 0 hk (by omega)
  simp only [akE, Nat.add_zero] at cs c0
  have h8 : ¬ 8 < R.length := by omega
  have h8i : ¬ (8 : Int) < (R.length : Int) := by omega
  simp -dsimp -implicitDefEqProofs (disch := omega) [go_sem, -List.getD_eq_getElem?_getD, ite_yes, h8, h8i]
  refine ALoop.intro (ι := Nat) (fun k => k ≤ R.length) (fun k => [(0, .slice (some ⟨t, 0, none⟩) R.length c), (13, .slice (some ⟨t, 0, none⟩) R.length c), (14, .int .i64 R.length), (15, .int .i64 k)]) (fun _ => H) (fun k => R.length - k) 0 (by omega) ?_ ?_
  · exact weakS_same (by simp -dsimp -implicitDefEqProofs (disch := omega) [go_sem, -List.getD_eq_getElem?_getD, ite_yes, ht])
  intro k hk
  by_cases hlt : k < R.length
  · have hlti : (k : Int) < (R.length : Int) := by omega
    have k1 := cs k hlt
    obtain ⟨hn, hnl⟩ := hS.ns _ (akmem hlt)
    have hix := hgt k hlt
    unfold rankIx at hix
    rw [Bool.and_eq_true, Bool.or_eq_true, decide_eq_true_eq, decide_eq_true_eq] at hix
    have kp := fun (hk0 : 0 < k) => c0 (k - 1) (by omega)
    generalize R.getD k akD = r at *
    have hv : areaB r.1 r.2.1 r.2.2.2.2 = true := hix.1
    have A := fun L => validArea_A r.1 r.2.1 r.2.2.2.2 hnl r.2.2.2.1 (roH (H ++ L)) r.2.2.1 hn.app.ro
    rw [hv] at A
    have hrt := hn.lt
    simp -dsimp -implicitDefEqProofs (disch := omega) [go_sem, -List.getD_eq_getElem?_getD, ite_yes, hlt, hlti, k1, ht, hrt]
    refine ADraw.quiet (by kernel_rfl) (by kernel_rfl) (by kernel_rfl) ?_
    simp -dsimp -implicitDefEqProofs (disch := omega) [go_sem, -List.getD_eq_getElem?_getD, ite_yes, hlt, hlti, k1, ht, hrt]
    refine ACallQ.of (A _) rfl ?_
    rcases Nat.eq_zero_or_pos k with h0 | h0
    · subst h0
      simp -dsimp -implicitDefEqProofs (disch := omega) [go_sem, -List.getD_eq_getElem?_getD, ite_yes]
      exact LoopEnd.of 1 (by omega) (by omega) (weakS_drop (by simp -dsimp -implicitDefEqProofs (disch := omega) [go_sem, -List.getD_eq_getElem?_getD, ite_yes, ht]))
    have h0i : (0 : Int) < (k : Int) := by omega
    obtain ⟨j, rfl⟩ : ∃ j, k = j + 1 := ⟨k - 1, by omega⟩
    have kp := kp h0
    rw [Nat.add_sub_cancel] at kp hix
    have hj : j < R.length := by omega
    have hji : (j : Int) < (R.length : Int) := by omega
    have hc : ¬ r.1 ≤ (R.getD j akD).1 := by omega
    generalize R.getD j akD = q at *
    simp -dsimp -implicitDefEqProofs (disch := omega) [go_sem, -List.getD_eq_getElem?_getD, ite_yes, hlt, hlti, h0, h0i, kp, ht, hj, hji, hc]
    exact LoopEnd.of (j + 1 + 1) (by omega) (by omega) (weakS_drop (by simp -dsimp -implicitDefEqProofs (disch := omega) [go_sem, -List.getD_eq_getElem?_getD, ite_yes, ht]))
  obtain rfl : k = R.length := by omega
  have hlti : ¬ (R.length : Int) < (R.length : Int) := by omega
  have al := hS.sp.all (s := 3) (fun _ => rfl)
  have lf := akE_length R
  have hA : ∀ r ∈ R, r.2.2.1 < H.length := fun r hr => (hS.ns r hr).1.lt
  have hol : (sortK moreK R).length = R.length := ordK_length moreK R _
  have hAs : ∀ r ∈ sortK moreK R, r.2.2.1 < H.length := fun r hr => hA r (ordK_mem (Nat.le_refl _) hr)
  simp -dsimp -implicitDefEqProofs (disch := omega) [go_sem, -List.getD_eq_getElem?_getD, ite_yes, hlti, al, lf, ht]
  refine ⟨by omega, ?_⟩
  refine ACall.of (sortStableK_A moreK R hl8 _ 26 39 _ _ ((Heap.get_len_add _ _ 1).trans rfl) (fun r hr => by have := hA r hr; simp; omega) ?_) ?_
  · intro G hG hGl x hx y hy
    have gS : ∀ r ∈ R, Sl nmE G r.2.2.1 r.2.2.2.2 := fun r hr => by
      obtain ⟨b, w, hb, ex⟩ := (hS.ns r hr).1
      have hb' := Heap.get_lt hb
      exact ⟨b, w, by rw [hG _ (by omega), Heap.get_append_left hb']; exact hb, ex⟩
    exact ⟨_, rank1_A x y (hAr x hx) (hAr y hy) (roH G) (gS x hx).ro (gS y hy).ro, cmpI_more x y⟩
  have eN : rankN R = idsTo (sortK moreK R) R.length := rfl
  rw [eN]
  generalize sortK moreK R = S at *
  have sf := akE_length S
  simp -dsimp -implicitDefEqProofs (disch := omega) [go_sem, -List.getD_eq_getElem?_getD, ite_yes]
  refine ALoop.intro (ι := Nat) (fun k => k ≤ R.length) (fun k => [(7, .slice (some ⟨H.length, 0, none⟩) k 0), (45, .slice (some ⟨H.length + 1, 0, none⟩) R.length 0), (46, .int .i64 R.length), (47, .int .i64 k)])
    (fun k => H ++ [some ⟨(idsTo S k).flatMap nmE, true, 3, 1⟩, some ⟨S.flatMap akE, true, 26, 3⟩]) (fun k => R.length - k) 0 (by omega) ?_ ?_
  · refine weakS_mk [some 2, some 1] rfl ?_ (by simp -dsimp -implicitDefEqProofs (disch := omega) [go_sem, -List.getD_eq_getElem?_getD, ite_yes, ht])
    simp -dsimp -implicitDefEqProofs (disch := omega) [go_sem, -List.getD_eq_getElem?_getD, ite_yes]
    exact ⟨.inl ⟨rfl, rfl⟩, wl_aks hAs⟩
  intro k hk
  have il := idsTo_length (R := S) (k := k) (by omega)
  have iff' : ((idsTo S k).flatMap nmE).length = k := by rw [nmE_length, il]; omega
  by_cases hlt : k < R.length
  · have hlti : (k : Int) < (R.length : Int) := by omega
    have fc := flatMap_cells akE 3 (fun _ => rfl) akD S k (by omega)
    simp only [akE] at fc
    have e := idsTo_next (R := S) (k := k) (by omega)
    have hk3 : k * 3 + 3 ≤ S.length * 3 := by omega
    generalize S.getD k akD = r at *
    simp -dsimp -implicitDefEqProofs (disch := omega) [go_sem, -List.getD_eq_getElem?_getD, ite_yes, hlt, hlti, fc, sf, hk3, hol, iff']
    refine ⟨by omega, LoopEnd.of (k + 1) (by omega) (by omega) (weakS_mk [some 4, some 1] rfl ?_ (by simp -dsimp -implicitDefEqProofs (disch := omega) [go_sem, -List.getD_eq_getElem?_getD, ite_yes, ht]))⟩
    simp -dsimp -implicitDefEqProofs (disch := omega) [go_sem, -List.getD_eq_getElem?_getD, ite_yes]
    exact ⟨.inl ⟨by rw [e, List.flatMap_append]; rfl, by rw [show List.flatMap nmE (idsTo S k) ++ [Value.int IntKind.i64 r.1] = List.flatMap nmE (idsTo S (k + 1)) by rw [e, List.flatMap_append]; rfl]; exact nmE_flat _⟩, wl_aks hAs⟩
  · have hlti : ¬ (k : Int) < (R.length : Int) := by omega
    obtain rfl : k = R.length := by omega
    simp -dsimp -implicitDefEqProofs (disch := omega) [go_sem, -List.getD_eq_getElem?_getD, ite_yes, hlti]
    refine fin_list [some 0] rfl ?_ (by simp -dsimp -implicitDefEqProofs (disch := omega) [go_sem, -List.getD_eq_getElem?_getD, ite_yes, il])
    simp -dsimp -implicitDefEqProofs (disch := omega) [go_sem, -List.getD_eq_getElem?_getD, ite_yes]
    exact .inl ⟨rfl, nmE_flat _⟩
end Go.Proofs.Yteojpgmclplggaa
