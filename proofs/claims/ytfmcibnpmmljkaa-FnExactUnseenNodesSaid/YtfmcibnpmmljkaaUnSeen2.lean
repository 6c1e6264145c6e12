/- UnseenNodes: both sides, and the law. -/
import Derived.Test.YtfmcibnpmmljkaaUnSeen
import Derived.Test.YtfmcibnpmmljkaaRecNm
namespace Go.Proofs.Ytfmcibnpmmljkaa
open Go.Am
set_option linter.unusedVariables false
set_option linter.unusedSimpArgs false
set_option maxRecDepth 100000
set_option maxHeartbeats 4000000

theorem stableUn_A (l : List Al) (hl8 : l.length ≤ 8) (c e : Nat) (H : Heap) (t : Nat) (hb : H.get t = some ⟨l.flatMap alE, true, e, 4⟩) :
    AFunC Try.prog 49 [.slice (some ⟨t, 0, none⟩) l.length c, .int .i64 l.length, .func (.func 32) #[] #[]] H (.tuple #[]) (H.set t (some ⟨(sortA l).flatMap alE, true, e, 4⟩)) := by
  refine AFunC.of_body Try.func49 (by kernel_rfl) rfl (by kernel_rfl) (by simp [Try.ntmps49]) ?_
  have ht := Heap.get_lt hb
  have h1 : ¬ (20 : Int) ≤ (l.length : Int) := by omega
  have h2 : ¬ (20 : Int) < (l.length : Int) := by omega
  have h1n : ¬ 20 ≤ l.length := by omega
  have h2n : ¬ 20 < l.length := by omega
  simp -dsimp -implicitDefEqProofs (disch := omega) [go_sem, -List.getD_eq_getElem?_getD, ite_yes, ht]
  refine ALoop.intro (ι := Unit) (fun _ => True) (fun _ => [(0, .slice (some ⟨t, 0, none⟩) l.length c), (1, .int .i64 l.length), (2, .func (.func 32) #[] #[]), (6, .int .i64 20), (7, .int .i64 0), (8, .int .i64 20)]) (fun _ => H) (fun _ => 0) () trivial ?_ ?_
  · exact weakS_same (by simp -dsimp -implicitDefEqProofs (disch := omega) [go_sem, -List.getD_eq_getElem?_getD, ite_yes, ht])
  intro _ _
  simp -dsimp -implicitDefEqProofs (disch := omega) [go_sem, -List.getD_eq_getElem?_getD, ite_yes, h1, h1n, ht]
  refine ACall.of (insUn_A l hl8 c e H t hb) ?_
  simp -dsimp -implicitDefEqProofs (disch := omega) [go_sem, -List.getD_eq_getElem?_getD, ite_yes, ht]
  refine ALoop.intro (ι := Unit) (fun _ => True) (fun _ => [(1, .int .i64 l.length), (6, .int .i64 20)]) (fun _ => H.set t (some ⟨(sortA l).flatMap alE, true, e, 4⟩)) (fun _ => 0) () trivial ?_ ?_
  · exact weakS_set ht (alE_flat _) rfl rfl (by simp -dsimp -implicitDefEqProofs (disch := omega) [go_sem, -List.getD_eq_getElem?_getD, ite_yes, ht])
  intro _ _
  simp -dsimp -implicitDefEqProofs (disch := omega) [go_sem, -List.getD_eq_getElem?_getD, ite_yes, h2, h2n]
  exact fin_set ht (alE_flat (sortA l)) rfl rfl rfl rfl
theorem sortUn_A (l : List Al) (hl8 : l.length ≤ 8) (c e : Nat) (H : Heap) (t : Nat) (hb : H.get t = some ⟨l.flatMap alE, true, e, 4⟩) :
    AFunC Try.prog 31 [.slice (some ⟨t, 0, none⟩) l.length c, .func (.func 32) #[] #[]] H (.tuple #[]) (H.set t (some ⟨(sortA l).flatMap alE, true, e, 4⟩)) := by
  refine AFunC.of_body Try.func31 (by kernel_rfl) rfl (by kernel_rfl) (by simp [Try.ntmps31]) ?_
  have ht := Heap.get_lt hb
  simp -dsimp -implicitDefEqProofs (disch := omega) [go_sem, -List.getD_eq_getElem?_getD, ite_yes, ht]
  refine ACall.of (stableUn_A l hl8 c e H t hb) ?_
  simp -dsimp -implicitDefEqProofs (disch := omega) [go_sem, -List.getD_eq_getElem?_getD, ite_yes]
  exact fin_set ht (alE_flat (sortA l)) rfl rfl rfl rfl
theorem sortA_length (l : List Al) : (sortA l).length = l.length := ordA_length _ _
/-- the nodes of the first k -/
def ndTo (L : List Al) (k : Nat) : List Int := (L.take k).map (·.1)
theorem ndTo_next {L : List Al} {k : Nat} (h : k < L.length) : ndTo L (k + 1) = ndTo L k ++ [(L.getD k alD).1] := by
  unfold ndTo
  rw [List.take_succ_eq_append_getElem h, List.map_append, List.getD_eq_getElem?_getD, List.getElem?_eq_getElem h]; rfl
theorem ndTo_length {L : List Al} {k : Nat} (h : k ≤ L.length) : (ndTo L k).length = k := by unfold ndTo; rw [List.length_map, List.length_take]; omega
theorem unN_length (l : List Al) : (unN l).length ≤ l.length := by
  unfold unN
  rw [List.length_map, sortA_length]
  exact unTo_length _ _
theorem iUnseen_bad (l : List Al) (hl : l.length ≤ 1048577) (c : Nat) (H : Heap) (t : Nat) (hS : Sl alE H t l) (hg : goodA l = false) :
    AFunC Try.prog 8 [.slice (some ⟨t, 0, none⟩) l.length c] H (.tuple #[.slice none 0 0, .bool false]) H := by
  refine AFunC.of_body Try.func8 (by kernel_rfl) rfl (by kernel_rfl) (by simp [Try.ntmps8]) ?_
  have ht := hS.lt
  simp -dsimp -implicitDefEqProofs (disch := omega) [go_sem, -List.getD_eq_getElem?_getD, ite_yes]
  refine ACall.of (areAlarms_A l hl c _ t hS) ?_
  simp -dsimp -implicitDefEqProofs (disch := omega) [go_sem, -List.getD_eq_getElem?_getD, ite_yes, hg]
  exact fin_flat0 rfl rfl
theorem iUnseen_good (l : List Al) (hl : l.length ≤ 1048577) (c : Nat) (H : Heap) (t : Nat) (hS : Sl alE H t l) (hg : goodA l = true) :
    AFunC Try.prog 8 [.slice (some ⟨t, 0, none⟩) l.length c] H (.tuple #[.slice (some ⟨H.length, 0, none⟩) (unN l).length (unN l).length, .bool true]) (H ++ [some ⟨(unN l).flatMap nmE, true, 3, 1⟩]) := by
  refine AFunC.of_body Try.func8 (by kernel_rfl) rfl (by kernel_rfl) (by simp [Try.ntmps8]) ?_
  have ht := hS.lt
  have l8 := goodA_small hg
  have cs := fun k hk => hS.cells (s := 4) (fun _ => rfl) alD k hk
  simp only [alE] at cs
  simp -dsimp -implicitDefEqProofs (disch := omega) [go_sem, -List.getD_eq_getElem?_getD, ite_yes]
  refine ACall.of (areAlarms_A l hl c _ t hS) ?_
  simp -dsimp -implicitDefEqProofs (disch := omega) [go_sem, -List.getD_eq_getElem?_getD, ite_yes, hg]
  refine ALoop.intro (ι := Nat) (fun k => k ≤ l.length) (fun k => [(4, .slice (some ⟨H.length, 0, none⟩) (unTo l k).length (unTo l k).length), (5, .slice (some ⟨H.length + 1, 0, none⟩) 0 0), (15, .slice (some ⟨t, 0, none⟩) l.length c), (16, .int .i64 l.length), (17, .int .i64 k)])
    (fun k => H ++ [some ⟨(unTo l k).flatMap alE, true, 59, 4⟩, some ⟨[], true, 3, 1⟩]) (fun k => l.length - k) 0 (by omega) ?_ ?_
  · refine weakS_mk [some 0, some 1] rfl ?_ (by simp -dsimp -implicitDefEqProofs (disch := omega) [go_sem, -List.getD_eq_getElem?_getD, ite_yes, ht, unTo])
    simp -dsimp -implicitDefEqProofs (disch := omega) [go_sem, -List.getD_eq_getElem?_getD, ite_yes, unTo]
    exact .inl ⟨rfl, rfl⟩
  · intro k hk
    by_cases hlt : k < l.length
    · have un := unTo_next hlt
      have ul := unTo_length l k
      have uf := alE_length (unTo l k)
      have ck := cs k hlt
      generalize hx : l.getD k alD = x at un ck
      by_cases hs : x.2.2.2 = true
      · rw [if_pos hs] at un
        simp -dsimp -implicitDefEqProofs (disch := omega) [go_sem, -List.getD_eq_getElem?_getD, ite_yes, hlt, ck, ht, hs]
        refine LoopEnd.of (k + 1) (by omega) (by omega) (weakS_mk [some 0, some 1] rfl ?_ (by simp -dsimp -implicitDefEqProofs (disch := omega) [go_sem, -List.getD_eq_getElem?_getD, ite_yes, ht, un]))
        simp -dsimp -implicitDefEqProofs (disch := omega) [go_sem, -List.getD_eq_getElem?_getD, ite_yes, un]
        exact ⟨.inl ⟨rfl, alE_flat _⟩, .inl ⟨rfl, rfl⟩⟩
      · rw [if_neg hs] at un
        have hs' : x.2.2.2 = false := by simpa using hs
        simp -dsimp -implicitDefEqProofs (disch := omega) [go_sem, -List.getD_eq_getElem?_getD, ite_yes, hlt, ck, ht, hs', uf]
        have unl : (unTo l (k + 1)).length = (unTo l k).length + 1 := by rw [un]; simp
        refine ⟨by omega, LoopEnd.of (k + 1) (by omega) (by omega) (weakS_mk [some 4, some 1] rfl ?_ (by simp -dsimp -implicitDefEqProofs (disch := omega) [go_sem, -List.getD_eq_getElem?_getD, ite_yes, ht, unl]))⟩
        simp -dsimp -implicitDefEqProofs (disch := omega) [go_sem, -List.getD_eq_getElem?_getD, ite_yes, un]
        exact ⟨.inl ⟨by simp [alE, hs'], by simp [alE, flat]⟩, .inl ⟨rfl, rfl⟩⟩
    · simp -dsimp -implicitDefEqProofs (disch := omega) [go_sem, -List.getD_eq_getElem?_getD, ite_yes, hlt]
      obtain rfl : k = l.length := by omega
      generalize hu : unTo l l.length = u
      have ul := unTo_length l l.length
      rw [hu] at ul
      refine ACall.of (sortUn_A u (by omega) _ _ _ _ (by rw [Heap.get_len]; rfl)) ?_
      have sl := sortA_length u
      have hn : unN l = ndTo (sortA u) (sortA u).length := by unfold unN ndTo; rw [hu, List.take_of_length_le (Nat.le_refl _)]
      rw [hn]
      generalize sortA u = S at sl
      simp -dsimp -implicitDefEqProofs (disch := omega) [go_sem, -List.getD_eq_getElem?_getD, ite_yes, ht]
      refine ALoop.intro (ι := Nat) (fun k => k ≤ S.length) (fun k => [(5, .slice (some ⟨H.length + 1, 0, none⟩) k k), (31, .slice (some ⟨H.length, 0, none⟩) S.length S.length), (32, .int .i64 S.length), (33, .int .i64 k)])
        (fun k => H ++ [some ⟨S.flatMap alE, true, 59, 4⟩, some ⟨(ndTo S k).flatMap nmE, true, 3, 1⟩]) (fun k => S.length - k) 0 (by omega) ?_ ?_
      · refine weakS_mk [some 0, some 1] rfl ?_ (by simp -dsimp -implicitDefEqProofs (disch := omega) [go_sem, -List.getD_eq_getElem?_getD, ite_yes, ht, sl])
        simp -dsimp -implicitDefEqProofs (disch := omega) [go_sem, -List.getD_eq_getElem?_getD, ite_yes, ndTo]
        exact ⟨.inl ⟨rfl, alE_flat _⟩, .inl ⟨rfl, rfl⟩⟩
      · intro k hk
        have nl := ndTo_length hk
        have nf : ((ndTo S k).flatMap nmE).length = k := by rw [nmE_length, nl]; omega
        have sf := alE_length S
        by_cases hlt : k < S.length
        · have nx := ndTo_next hlt
          have ck := flatMap_cells alE 4 (fun _ => rfl) alD S k hlt
          have k4 : k * 4 + 4 ≤ S.length * 4 := by omega
          generalize S.getD k alD = x at nx ck
          simp only [alE] at ck
          simp -dsimp -implicitDefEqProofs (disch := omega) [go_sem, -List.getD_eq_getElem?_getD, ite_yes, hlt, ck, ht, nf, sf, k4]
          refine ⟨by omega, LoopEnd.of (k + 1) (by omega) (by omega) (weakS_mk [some 0, some 4] rfl ?_ (by simp -dsimp -implicitDefEqProofs (disch := omega) [go_sem, -List.getD_eq_getElem?_getD, ite_yes, ht]))⟩
          simp -dsimp -implicitDefEqProofs (disch := omega) [go_sem, -List.getD_eq_getElem?_getD, ite_yes, nx]
          exact ⟨.inl ⟨rfl, alE_flat _⟩, .inl ⟨by simp [nmE], by simp [nmE, flat]⟩⟩
        · simp -dsimp -implicitDefEqProofs (disch := omega) [go_sem, -List.getD_eq_getElem?_getD, ite_yes, hlt]
          obtain rfl : k = S.length := by omega
          rw [show ((ndTo S S.length).length = S.length) from nl]
          refine fin_list [some 1] rfl ?_ (by simp -dsimp -implicitDefEqProofs (disch := omega) [go_sem, -List.getD_eq_getElem?_getD, ite_yes, ht])
          simp -dsimp -implicitDefEqProofs (disch := omega) [go_sem, -List.getD_eq_getElem?_getD, ite_yes]
          exact .inl ⟨rfl, nmE_flat _⟩
theorem un_take (L : List Int) (k : Nat) : List.take k (L.flatMap nmE) = (L.take k).flatMap nmE := by
  have e : ∀ M : List Int, M.flatMap nmE = M.map (Value.int .i64) := fun M => by
    induction M with
    | nil => rfl
    | cons x M ih => rw [List.flatMap_cons, ih]; rfl
  rw [e, e, List.map_take]
theorem un_drop (L : List Int) (k : Nat) : List.drop k (L.flatMap nmE) = (L.drop k).flatMap nmE := by
  have e : ∀ M : List Int, M.flatMap nmE = M.map (Value.int .i64) := fun M => by
    induction M with
    | nil => rfl
    | cons x M ih => rw [List.flatMap_cons, ih]; rfl
  rw [e, e, List.map_drop]
/-- a number put among some -/
theorem un_ins (f : Al → Int) (O : List Al) (x : Al) {k : Nat} (h : posA O x O.length = k) : ((insA O x).map f).flatMap nmE = ((O.map f).take k).flatMap nmE ++ Value.int .i64 (f x) :: ((O.map f).drop k).flatMap nmE := by
  rw [insA, h, List.map_append, List.map_cons, List.flatMap_append, List.flatMap_cons, List.map_take, List.map_drop]; rfl
theorem sUnseen_bad (l : List Al) (hl : l.length ≤ 1048577) (c : Nat) (H : Heap) (t : Nat) (hS : Sl alE H t l) (hg : goodA l = false) :
    AFunC Try.prog 6 [.slice (some ⟨t, 0, none⟩) l.length c] H (.tuple #[.slice (some ⟨H.length, 0, none⟩) 0 0, .bool false]) (H ++ [some ⟨[], true, 3, 1⟩]) := by
  refine AFunC.of_body Try.func6 (by kernel_rfl) rfl (by kernel_rfl) (by simp [Try.ntmps6]) ?_
  have ht := hS.lt
  simp -dsimp -implicitDefEqProofs (disch := omega) [go_sem, -List.getD_eq_getElem?_getD, ite_yes]
  refine ACall.of (l21Alarms_A l hl c _ t hS.app) ?_
  simp -dsimp -implicitDefEqProofs (disch := omega) [go_sem, -List.getD_eq_getElem?_getD, ite_yes, hg]
  refine fin_list [some 0] rfl ?_ (by simp -dsimp -implicitDefEqProofs (disch := omega) [go_sem, -List.getD_eq_getElem?_getD, ite_yes, ht])
  simp -dsimp -implicitDefEqProofs (disch := omega) [go_sem, -List.getD_eq_getElem?_getD, ite_yes]
  exact .inl ⟨rfl, rfl⟩
theorem sUnseen_good (l : List Al) (hl : l.length ≤ 1048577) (c : Nat) (H : Heap) (t : Nat) (hS : Sl alE H t l) (hg : goodA l = true) :
    AFunC Try.prog 6 [.slice (some ⟨t, 0, none⟩) l.length c] H (.tuple #[.slice (some ⟨H.length, 0, none⟩) (unN l).length 0, .bool true]) (H ++ [some ⟨(unN l).flatMap nmE, true, 3, 1⟩]) := by
  refine AFunC.of_body Try.func6 (by kernel_rfl) rfl (by kernel_rfl) (by simp [Try.ntmps6]) ?_
  have ht := hS.lt
  have l8 := goodA_small hg
  have cs := fun k hk => hS.cells (s := 4) (fun _ => rfl) alD k hk
  have c3 := fun k hk => hS.cell (s := 4) (fun _ => rfl) alD k 3 hk (by omega)
  have c2 := fun k hk => hS.cell (s := 4) (fun _ => rfl) alD k 2 hk (by omega)
  have c1 := fun k hk => hS.cell (s := 4) (fun _ => rfl) alD k 0 hk (by omega)
  simp only [alE, Nat.add_zero] at c1 c2 c3
  simp -dsimp -implicitDefEqProofs (disch := omega) [go_sem, -List.getD_eq_getElem?_getD, ite_yes]
  refine ACall.of (l21Alarms_A l hl c _ t hS.app) ?_
  simp -dsimp -implicitDefEqProofs (disch := omega) [go_sem, -List.getD_eq_getElem?_getD, ite_yes, hg]
  refine ALoop.intro (ι := Nat) (fun i => i ≤ l.length) (fun i => [(0, .slice (some ⟨t, 0, none⟩) l.length c), (4, .slice (some ⟨H.length, 0, none⟩) (unTo l i).length 0), (5, .slice (some ⟨H.length + 1, 0, none⟩) (unTo l i).length 0), (6, .int .i64 i)])
    (fun i => H ++ [some ⟨((sortA (unTo l i)).map (·.1)).flatMap nmE, true, 3, 1⟩, some ⟨((sortA (unTo l i)).map (·.2.2.1)).flatMap nmE, true, 3, 1⟩]) (fun i => l.length - i) 0 (by omega) ?_ ?_
  · refine weakS_mk [some 0, some 1] rfl ?_ (by simp -dsimp -implicitDefEqProofs (disch := omega) [go_sem, -List.getD_eq_getElem?_getD, ite_yes, ht, unTo])
    simp -dsimp -implicitDefEqProofs (disch := omega) [go_sem, -List.getD_eq_getElem?_getD, ite_yes, unTo, sortA, ordA]
    exact .inl ⟨rfl, rfl⟩
  · intro i hi
    have ul := unTo_length l i
    have ol := sortA_length (unTo l i)
    by_cases hlt : i < l.length
    · have un := unTo_next hlt
      have k3 := c3 i hlt
      have k2 := c2 i hlt
      have k1 := c1 i hlt
      generalize l.getD i alD = x at un k1 k2 k3
      by_cases hs : x.2.2.2 = true
      · rw [if_pos hs] at un
        simp -dsimp -implicitDefEqProofs (disch := omega) [go_sem, -List.getD_eq_getElem?_getD, ite_yes, hlt, k3, ht, hs]
        refine LoopEnd.of (i + 1) (by omega) (by omega) (weakS_mk [some 0, some 1] rfl ?_ (by simp -dsimp -implicitDefEqProofs (disch := omega) [go_sem, -List.getD_eq_getElem?_getD, ite_yes, ht, un]))
        simp -dsimp -implicitDefEqProofs (disch := omega) [go_sem, -List.getD_eq_getElem?_getD, ite_yes, un]
        exact ⟨.inl ⟨rfl, nmE_flat _⟩, .inl ⟨rfl, nmE_flat _⟩⟩
      · rw [if_neg hs] at un
        have hs' : x.2.2.2 = false := by simpa using hs
        have us := sortA_snoc (unTo l i) x
        have unl : (unTo l (i + 1)).length = (unTo l i).length + 1 := by rw [un]; simp
        rw [← un] at us
        generalize hO : sortA (unTo l i) = O at us ol ⊢
        generalize hn : (unTo l i).length = n at ul ol unl ⊢
        simp -dsimp -implicitDefEqProofs (disch := omega) [go_sem, -List.getD_eq_getElem?_getD, ite_yes, hlt, k3, ht, hs']
        refine ALoop.intro (ι := Nat) (fun k => k ≤ n ∧ posA O x n = posA O x k) (fun k => [(0, .slice (some ⟨t, 0, none⟩) l.length c), (4, .slice (some ⟨H.length, 0, none⟩) n 0), (5, .slice (some ⟨H.length + 1, 0, none⟩) n 0), (6, .int .i64 i), (7, .int .i64 k)])
          (fun k => H ++ [some ⟨(O.map (·.1)).flatMap nmE, true, 3, 1⟩, some ⟨(O.map (·.2.2.1)).flatMap nmE, true, 3, 1⟩]) (fun k => k) n ⟨Nat.le_refl _, rfl⟩ ?_ ?_
        · refine weakS_mk [some 0, some 1] rfl ?_ (by simp -dsimp -implicitDefEqProofs (disch := omega) [go_sem, -List.getD_eq_getElem?_getD, ite_yes, ht])
          simp -dsimp -implicitDefEqProofs (disch := omega) [go_sem, -List.getD_eq_getElem?_getD, ite_yes]
          exact ⟨.inl ⟨rfl, nmE_flat _⟩, .inl ⟨rfl, nmE_flat _⟩⟩
        rintro k ⟨hk, hpos⟩
        have hins : ∀ (f : Al → Int) (k : Nat), posA O x n = k → ((insA O x).map f).flatMap nmE = ((O.map f).take k).flatMap nmE ++ Value.int .i64 (f x) :: ((O.map f).drop k).flatMap nmE := fun f k h => un_ins f O x (by rw [ol]; exact h)
        have nl : (O.map (·.1)).length = n := by rw [List.length_map, ol]
        have tl : (O.map (·.2.2.1)).length = n := by rw [List.length_map, ol]
        have nl' : ((insA O x).map (·.1)).length = n + 1 := by rw [List.length_map, insA_length, ol]
        have tk : ∀ k, k < n → (O.map (·.2.2.1)).getD k 0 = (O.getD k alD).2.2.1 := fun k h => by
          rw [List.getD_eq_getElem?_getD, List.getElem?_map, List.getD_eq_getElem?_getD, List.getElem?_eq_getElem (by omega)]; rfl
        obtain ⟨N, hNe⟩ : ∃ N, O.map (·.1) = N := ⟨_, rfl⟩
        obtain ⟨T, hTe⟩ : ∃ T, O.map (·.2.2.1) = T := ⟨_, rfl⟩
        obtain ⟨N', hN'e⟩ : ∃ N', (insA O x).map (·.1) = N' := ⟨_, rfl⟩
        obtain ⟨T', hT'e⟩ : ∃ T', (insA O x).map (·.2.2.1) = T' := ⟨_, rfl⟩
        have nf : (N.flatMap nmE).length = n := by rw [nmE_length, ← hNe, nl]; omega
        have tf : (T.flatMap nmE).length = n := by rw [nmE_length, ← hTe, tl]; omega
        rw [hNe] at nl
        rw [hTe] at tl tk
        rw [hN'e] at nl'
        have hi1 := hins (·.1)
        have hi2 := hins (·.2.2.1)
        rw [hNe, hN'e] at hi1
        rw [hTe, hT'e] at hi2
        rw [hNe, hTe]
        cases k with
        | zero =>
          simp -dsimp -implicitDefEqProofs (disch := omega) [go_sem, -List.getD_eq_getElem?_getD, ite_yes, ht]
          refine ADraw.quiet (by kernel_rfl) (by kernel_rfl) (by kernel_rfl) ?_
          have n1 := un_take N (0)
          have n2 := un_drop N (0)
          have n3 : (List.flatMap nmE (List.take (0) N)).length = 0 := by rw [nmE_length, List.length_take]; omega
          have n4 : (List.flatMap nmE (List.drop (0) N)).length = n - (0) := by rw [nmE_length, List.length_drop]; omega
          have n5 : List.take (n - (0)) (List.flatMap nmE (List.drop (0) N)) = List.flatMap nmE (List.drop (0) N) := List.take_of_length_le (by omega)
          have m1 := un_take T (0)
          have m2 := un_drop T (0)
          have m3 : (List.flatMap nmE (List.take (0) T)).length = 0 := by rw [nmE_length, List.length_take]; omega
          have m4 : (List.flatMap nmE (List.drop (0) T)).length = n - (0) := by rw [nmE_length, List.length_drop]; omega
          have m5 : List.take (n - (0)) (List.flatMap nmE (List.drop (0) T)) = List.flatMap nmE (List.drop (0) T) := List.take_of_length_le (by omega)
          have e4 : (0) + 1 + (n - (0)) = n + 1 := by omega
          have hN : N'.flatMap nmE = (N.take (0)).flatMap nmE ++ Value.int .i64 x.1 :: (N.drop (0)).flatMap nmE := hi1 0 hpos
          have hT : T'.flatMap nmE = (T.take (0)).flatMap nmE ++ Value.int .i64 x.2.2.1 :: (T.drop (0)).flatMap nmE := hi2 0 hpos
          try simp only [List.drop_zero, List.take_zero, List.flatMap_nil, Nat.sub_zero, List.nil_append, Nat.zero_add] at n1 n2 n3 n4 n5 m1 m2 m3 m4 m5 e4 hN hT
          simp -dsimp -implicitDefEqProofs (disch := omega) [go_sem, -List.getD_eq_getElem?_getD, ite_yes, ht, hlt, nf, tf, n1, n2, n3, n4, n5, m1, m2, m3, m4, m5, k1, k2]
          refine ADraw.mid [(0, .slice (some ⟨t, 0, none⟩) l.length c), (4, .slice (some ⟨H.length, 0, none⟩) (n + 1) 0), (5, .slice (some ⟨H.length + 1, 0, none⟩) n 0), (6, .int .i64 i), (7, .int .i64 (0 : Nat))] (H ++ [some ⟨N'.flatMap nmE, true, 3, 1⟩, some ⟨T.flatMap nmE, true, 3, 1⟩]) ?_ ?_
          · skip
            refine ADraw.any (H ++ [some ⟨N.flatMap nmE, true, 3, 1⟩, some ⟨T.flatMap nmE, true, 3, 1⟩]) (by kernel_rfl) (by first | exact SubH.refl | exact SubH.app | exact SubH.both (by simp [subL])) ?_
            refine AAny.takes (fuel := 6) (by kernel_rfl) (by kernel_rfl) [1, 2, 3, 5, 6, 7, 8, 9, 12, 13, 14] (by kernel_rfl) (by kernel_rfl) ?_
            simp -dsimp -implicitDefEqProofs (disch := omega) [go_sem, -List.getD_eq_getElem?_getD, ite_yes, ht, hlt, nf, tf, n1, n2, n3, n4, n5, m1, m2, m3, m4, m5, k1, k2]
            refine AAny.two 5 0 10 (by kernel_rfl) (by kernel_rfl) (by kernel_rfl) ?_ ?_
            · simp -dsimp -implicitDefEqProofs (disch := omega) [go_sem, -List.getD_eq_getElem?_getD, ite_yes, ht, hlt, nf, tf, n1, n2, n3, n4, n5, m1, m2, m3, m4, m5, k1, k2]
              first | refine AAt.of (by first | exact SubH.refl | exact SubH.app | exact SubH.both (by simp [subL])) ?_ | (refine ⟨?_, AAt.of (by first | exact SubH.refl | exact SubH.app | exact SubH.both (by simp [subL])) ?_⟩; · omega)
              refine AAny.two 4 4 10 (by kernel_rfl) (by kernel_rfl) (by kernel_rfl) ?_ ?_
              · simp -dsimp -implicitDefEqProofs (disch := omega) [go_sem, -List.getD_eq_getElem?_getD, ite_yes, ht, hlt, nf, tf, n1, n2, n3, n4, n5, m1, m2, m3, m4, m5, k1, k2]
                first | refine AAt.of (by first | exact SubH.refl | exact SubH.app | exact SubH.both (by simp [subL])) ?_ | (refine ⟨?_, AAt.of (by first | exact SubH.refl | exact SubH.app | exact SubH.both (by simp [subL])) ?_⟩; · omega)
                refine AAny.one 3 10 (by kernel_rfl) (by kernel_rfl) (by kernel_rfl) ?_
                simp -dsimp -implicitDefEqProofs (disch := omega) [go_sem, -List.getD_eq_getElem?_getD, ite_yes, ht, hlt, nf, tf, n1, n2, n3, n4, n5, m1, m2, m3, m4, m5, k1, k2]
                first | refine AAt.of (by first | exact SubH.refl | exact SubH.app | exact SubH.both (by simp [subL])) ?_ | (refine ⟨?_, AAt.of (by first | exact SubH.refl | exact SubH.app | exact SubH.both (by simp [subL])) ?_⟩; · omega)
                refine AAny.one 2 11 (by kernel_rfl) (by kernel_rfl) (by kernel_rfl) ?_
                simp -dsimp -implicitDefEqProofs (disch := omega) [go_sem, -List.getD_eq_getElem?_getD, ite_yes, ht, hlt, nf, tf, n1, n2, n3, n4, n5, m1, m2, m3, m4, m5, k1, k2]
                first | refine AAt.of (by first | exact SubH.refl | exact SubH.app | exact SubH.both (by simp [subL])) ?_ | (refine ⟨?_, AAt.of (by first | exact SubH.refl | exact SubH.app | exact SubH.both (by simp [subL])) ?_⟩; · omega)
                refine AAny.one 1 15 (by kernel_rfl) (by kernel_rfl) (by kernel_rfl) ?_
                simp -dsimp -implicitDefEqProofs (disch := omega) [go_sem, -List.getD_eq_getElem?_getD, ite_yes, ht, hlt, nf, tf, n1, n2, n3, n4, n5, m1, m2, m3, m4, m5, k1, k2]
                first | refine AAt.of (by first | exact SubH.refl | exact SubH.app | exact SubH.both (by simp [subL])) ?_ | (refine ⟨?_, AAt.of (by first | exact SubH.refl | exact SubH.app | exact SubH.both (by simp [subL])) ?_⟩; · omega)
                refine AAny.takes (fuel := 0) (by kernel_rfl) (by kernel_rfl) [16] (by kernel_rfl) (by kernel_rfl) ?_
                simp -dsimp -implicitDefEqProofs (disch := omega) [go_sem, -List.getD_eq_getElem?_getD, ite_yes, ht, hlt, nf, tf, n1, n2, n3, n4, n5, m1, m2, m3, m4, m5, k1, k2]
                refine AAny.done (by kernel_rfl) ?_
                simp -dsimp -implicitDefEqProofs (disch := omega) [go_sem, -List.getD_eq_getElem?_getD, ite_yes, ht, hlt, nf, tf, n1, n2, n3, n4, n5, m1, m2, m3, m4, m5, k1, k2]
                refine ⟨weakS_mk [some 6, some 1] rfl ?_ (by simp -dsimp -implicitDefEqProofs (disch := omega) [go_sem, -List.getD_eq_getElem?_getD, ite_yes, ht, e4])⟩
                simp -dsimp -implicitDefEqProofs (disch := omega) [go_sem, -List.getD_eq_getElem?_getD, ite_yes, ht, hlt, nf, tf, n1, n2, n3, n4, n5, m1, m2, m3, m4, m5, k1, k2]
                exact ⟨.inl ⟨hN, hN ▸ nmE_flat N'⟩, .inl ⟨rfl, nmE_flat _⟩⟩
              · simp -dsimp -implicitDefEqProofs (disch := omega) [go_sem, -List.getD_eq_getElem?_getD, ite_yes, ht, hlt, nf, tf, n1, n2, n3, n4, n5, m1, m2, m3, m4, m5, k1, k2]
                first | refine AAt.of (by first | exact SubH.refl | exact SubH.app | exact SubH.both (by simp [subL])) ?_ | (refine ⟨?_, AAt.of (by first | exact SubH.refl | exact SubH.app | exact SubH.both (by simp [subL])) ?_⟩; · omega)
                refine AAny.one 3 4 (by kernel_rfl) (by kernel_rfl) (by kernel_rfl) ?_
                simp -dsimp -implicitDefEqProofs (disch := omega) [go_sem, -List.getD_eq_getElem?_getD, ite_yes, ht, hlt, nf, tf, n1, n2, n3, n4, n5, m1, m2, m3, m4, m5, k1, k2]
                first | refine AAt.of (by first | exact SubH.refl | exact SubH.app | exact SubH.both (by simp [subL])) ?_ | (refine ⟨?_, AAt.of (by first | exact SubH.refl | exact SubH.app | exact SubH.both (by simp [subL])) ?_⟩; · omega)
                refine AAny.one 2 11 (by kernel_rfl) (by kernel_rfl) (by kernel_rfl) ?_
                simp -dsimp -implicitDefEqProofs (disch := omega) [go_sem, -List.getD_eq_getElem?_getD, ite_yes, ht, hlt, nf, tf, n1, n2, n3, n4, n5, m1, m2, m3, m4, m5, k1, k2]
                first | refine AAt.of (by first | exact SubH.refl | exact SubH.app | exact SubH.both (by simp [subL])) ?_ | (refine ⟨?_, AAt.of (by first | exact SubH.refl | exact SubH.app | exact SubH.both (by simp [subL])) ?_⟩; · omega)
                refine AAny.one 1 15 (by kernel_rfl) (by kernel_rfl) (by kernel_rfl) ?_
                simp -dsimp -implicitDefEqProofs (disch := omega) [go_sem, -List.getD_eq_getElem?_getD, ite_yes, ht, hlt, nf, tf, n1, n2, n3, n4, n5, m1, m2, m3, m4, m5, k1, k2]
                first | refine AAt.of (by first | exact SubH.refl | exact SubH.app | exact SubH.both (by simp [subL])) ?_ | (refine ⟨?_, AAt.of (by first | exact SubH.refl | exact SubH.app | exact SubH.both (by simp [subL])) ?_⟩; · omega)
                refine AAny.takes (fuel := 0) (by kernel_rfl) (by kernel_rfl) [16] (by kernel_rfl) (by kernel_rfl) ?_
                simp -dsimp -implicitDefEqProofs (disch := omega) [go_sem, -List.getD_eq_getElem?_getD, ite_yes, ht, hlt, nf, tf, n1, n2, n3, n4, n5, m1, m2, m3, m4, m5, k1, k2]
                refine AAny.done (by kernel_rfl) ?_
                simp -dsimp -implicitDefEqProofs (disch := omega) [go_sem, -List.getD_eq_getElem?_getD, ite_yes, ht, hlt, nf, tf, n1, n2, n3, n4, n5, m1, m2, m3, m4, m5, k1, k2]
                refine ⟨weakS_mk [some 6, some 1] rfl ?_ (by simp -dsimp -implicitDefEqProofs (disch := omega) [go_sem, -List.getD_eq_getElem?_getD, ite_yes, ht, e4])⟩
                simp -dsimp -implicitDefEqProofs (disch := omega) [go_sem, -List.getD_eq_getElem?_getD, ite_yes, ht, hlt, nf, tf, n1, n2, n3, n4, n5, m1, m2, m3, m4, m5, k1, k2]
                exact ⟨.inl ⟨hN, hN ▸ nmE_flat N'⟩, .inl ⟨rfl, nmE_flat _⟩⟩
            · simp -dsimp -implicitDefEqProofs (disch := omega) [go_sem, -List.getD_eq_getElem?_getD, ite_yes, ht, hlt, nf, tf, n1, n2, n3, n4, n5, m1, m2, m3, m4, m5, k1, k2]
              first | refine AAt.of (by first | exact SubH.refl | exact SubH.app | exact SubH.both (by simp [subL])) ?_ | (refine ⟨?_, AAt.of (by first | exact SubH.refl | exact SubH.app | exact SubH.both (by simp [subL])) ?_⟩; · omega)
              refine AAny.one 4 0 (by kernel_rfl) (by kernel_rfl) (by kernel_rfl) ?_
              simp -dsimp -implicitDefEqProofs (disch := omega) [go_sem, -List.getD_eq_getElem?_getD, ite_yes, ht, hlt, nf, tf, n1, n2, n3, n4, n5, m1, m2, m3, m4, m5, k1, k2]
              first | refine AAt.of (by first | exact SubH.refl | exact SubH.app | exact SubH.both (by simp [subL])) ?_ | (refine ⟨?_, AAt.of (by first | exact SubH.refl | exact SubH.app | exact SubH.both (by simp [subL])) ?_⟩; · omega)
              refine AAny.one 3 4 (by kernel_rfl) (by kernel_rfl) (by kernel_rfl) ?_
              simp -dsimp -implicitDefEqProofs (disch := omega) [go_sem, -List.getD_eq_getElem?_getD, ite_yes, ht, hlt, nf, tf, n1, n2, n3, n4, n5, m1, m2, m3, m4, m5, k1, k2]
              first | refine AAt.of (by first | exact SubH.refl | exact SubH.app | exact SubH.both (by simp [subL])) ?_ | (refine ⟨?_, AAt.of (by first | exact SubH.refl | exact SubH.app | exact SubH.both (by simp [subL])) ?_⟩; · omega)
              refine AAny.one 2 11 (by kernel_rfl) (by kernel_rfl) (by kernel_rfl) ?_
              simp -dsimp -implicitDefEqProofs (disch := omega) [go_sem, -List.getD_eq_getElem?_getD, ite_yes, ht, hlt, nf, tf, n1, n2, n3, n4, n5, m1, m2, m3, m4, m5, k1, k2]
              first | refine AAt.of (by first | exact SubH.refl | exact SubH.app | exact SubH.both (by simp [subL])) ?_ | (refine ⟨?_, AAt.of (by first | exact SubH.refl | exact SubH.app | exact SubH.both (by simp [subL])) ?_⟩; · omega)
              refine AAny.one 1 15 (by kernel_rfl) (by kernel_rfl) (by kernel_rfl) ?_
              simp -dsimp -implicitDefEqProofs (disch := omega) [go_sem, -List.getD_eq_getElem?_getD, ite_yes, ht, hlt, nf, tf, n1, n2, n3, n4, n5, m1, m2, m3, m4, m5, k1, k2]
              first | refine AAt.of (by first | exact SubH.refl | exact SubH.app | exact SubH.both (by simp [subL])) ?_ | (refine ⟨?_, AAt.of (by first | exact SubH.refl | exact SubH.app | exact SubH.both (by simp [subL])) ?_⟩; · omega)
              refine AAny.takes (fuel := 0) (by kernel_rfl) (by kernel_rfl) [16] (by kernel_rfl) (by kernel_rfl) ?_
              simp -dsimp -implicitDefEqProofs (disch := omega) [go_sem, -List.getD_eq_getElem?_getD, ite_yes, ht, hlt, nf, tf, n1, n2, n3, n4, n5, m1, m2, m3, m4, m5, k1, k2]
              refine AAny.done (by kernel_rfl) ?_
              simp -dsimp -implicitDefEqProofs (disch := omega) [go_sem, -List.getD_eq_getElem?_getD, ite_yes, ht, hlt, nf, tf, n1, n2, n3, n4, n5, m1, m2, m3, m4, m5, k1, k2]
              refine ⟨weakS_mk [some 6, some 1] rfl ?_ (by simp -dsimp -implicitDefEqProofs (disch := omega) [go_sem, -List.getD_eq_getElem?_getD, ite_yes, ht, e4])⟩
              simp -dsimp -implicitDefEqProofs (disch := omega) [go_sem, -List.getD_eq_getElem?_getD, ite_yes, ht, hlt, nf, tf, n1, n2, n3, n4, n5, m1, m2, m3, m4, m5, k1, k2]
              exact ⟨.inl ⟨hN, hN ▸ nmE_flat N'⟩, .inl ⟨rfl, nmE_flat _⟩⟩
          have nf' : (N'.flatMap nmE).length = n + 1 := by rw [nmE_length, nl']; omega
          simp -dsimp -implicitDefEqProofs (disch := omega) [go_sem, -List.getD_eq_getElem?_getD, ite_yes, ht, hlt, nf, tf, n1, n2, n3, n4, n5, m1, m2, m3, m4, m5, k1, k2, nf']
          refine ADraw.any (H ++ [some ⟨N'.flatMap nmE, true, 3, 1⟩, some ⟨T.flatMap nmE, true, 3, 1⟩]) (by kernel_rfl) (by first | exact SubH.refl | exact SubH.app | exact SubH.both (by simp [subL])) ?_
          refine AAny.takes (fuel := 6) (by kernel_rfl) (by kernel_rfl) [1, 2, 3, 5, 6, 7, 8, 9, 12, 13, 14] (by kernel_rfl) (by kernel_rfl) ?_
          simp -dsimp -implicitDefEqProofs (disch := omega) [go_sem, -List.getD_eq_getElem?_getD, ite_yes, ht, hlt, nf, tf, n1, n2, n3, n4, n5, m1, m2, m3, m4, m5, k1, k2, nf']
          refine AAny.two 5 0 10 (by kernel_rfl) (by kernel_rfl) (by kernel_rfl) ?_ ?_
          · simp -dsimp -implicitDefEqProofs (disch := omega) [go_sem, -List.getD_eq_getElem?_getD, ite_yes, ht, hlt, nf, tf, n1, n2, n3, n4, n5, m1, m2, m3, m4, m5, k1, k2, nf']
            first | refine AAt.of (by first | exact SubH.refl | exact SubH.app | exact SubH.both (by simp [subL])) ?_ | (refine ⟨?_, AAt.of (by first | exact SubH.refl | exact SubH.app | exact SubH.both (by simp [subL])) ?_⟩; · omega)
            refine AAny.two 4 4 10 (by kernel_rfl) (by kernel_rfl) (by kernel_rfl) ?_ ?_
            · simp -dsimp -implicitDefEqProofs (disch := omega) [go_sem, -List.getD_eq_getElem?_getD, ite_yes, ht, hlt, nf, tf, n1, n2, n3, n4, n5, m1, m2, m3, m4, m5, k1, k2, nf']
              first | refine AAt.of (by first | exact SubH.refl | exact SubH.app | exact SubH.both (by simp [subL])) ?_ | (refine ⟨?_, AAt.of (by first | exact SubH.refl | exact SubH.app | exact SubH.both (by simp [subL])) ?_⟩; · omega)
              refine AAny.one 3 10 (by kernel_rfl) (by kernel_rfl) (by kernel_rfl) ?_
              simp -dsimp -implicitDefEqProofs (disch := omega) [go_sem, -List.getD_eq_getElem?_getD, ite_yes, ht, hlt, nf, tf, n1, n2, n3, n4, n5, m1, m2, m3, m4, m5, k1, k2, nf']
              first | refine AAt.of (by first | exact SubH.refl | exact SubH.app | exact SubH.both (by simp [subL])) ?_ | (refine ⟨?_, AAt.of (by first | exact SubH.refl | exact SubH.app | exact SubH.both (by simp [subL])) ?_⟩; · omega)
              refine AAny.one 2 11 (by kernel_rfl) (by kernel_rfl) (by kernel_rfl) ?_
              simp -dsimp -implicitDefEqProofs (disch := omega) [go_sem, -List.getD_eq_getElem?_getD, ite_yes, ht, hlt, nf, tf, n1, n2, n3, n4, n5, m1, m2, m3, m4, m5, k1, k2, nf']
              first | refine AAt.of (by first | exact SubH.refl | exact SubH.app | exact SubH.both (by simp [subL])) ?_ | (refine ⟨?_, AAt.of (by first | exact SubH.refl | exact SubH.app | exact SubH.both (by simp [subL])) ?_⟩; · omega)
              refine AAny.one 1 15 (by kernel_rfl) (by kernel_rfl) (by kernel_rfl) ?_
              simp -dsimp -implicitDefEqProofs (disch := omega) [go_sem, -List.getD_eq_getElem?_getD, ite_yes, ht, hlt, nf, tf, n1, n2, n3, n4, n5, m1, m2, m3, m4, m5, k1, k2, nf']
              first | refine AAt.of (by first | exact SubH.refl | exact SubH.app | exact SubH.both (by simp [subL])) ?_ | (refine ⟨?_, AAt.of (by first | exact SubH.refl | exact SubH.app | exact SubH.both (by simp [subL])) ?_⟩; · omega)
              refine AAny.takes (fuel := 0) (by kernel_rfl) (by kernel_rfl) [16] (by kernel_rfl) (by kernel_rfl) ?_
              simp -dsimp -implicitDefEqProofs (disch := omega) [go_sem, -List.getD_eq_getElem?_getD, ite_yes, ht, hlt, nf, tf, n1, n2, n3, n4, n5, m1, m2, m3, m4, m5, k1, k2, nf']
              refine AAny.done (by kernel_rfl) ?_
              simp -dsimp -implicitDefEqProofs (disch := omega) [go_sem, -List.getD_eq_getElem?_getD, ite_yes, ht, hlt, nf, tf, n1, n2, n3, n4, n5, m1, m2, m3, m4, m5, k1, k2, nf']
              refine LoopEnd.of (i + 1) (by omega) (by omega) (weakS_mk [some 0, some 6] rfl ?_ (by simp -dsimp -implicitDefEqProofs (disch := omega) [go_sem, -List.getD_eq_getElem?_getD, ite_yes, ht, e4, unl]))
              simp -dsimp -implicitDefEqProofs (disch := omega) [go_sem, -List.getD_eq_getElem?_getD, ite_yes, ht, hlt, nf, tf, n1, n2, n3, n4, n5, m1, m2, m3, m4, m5, k1, k2, us, hN'e, hT'e]
              exact ⟨.inl ⟨rfl, nmE_flat _⟩, .inl ⟨hT, hT ▸ nmE_flat T'⟩⟩
            · simp -dsimp -implicitDefEqProofs (disch := omega) [go_sem, -List.getD_eq_getElem?_getD, ite_yes, ht, hlt, nf, tf, n1, n2, n3, n4, n5, m1, m2, m3, m4, m5, k1, k2, nf']
              first | refine AAt.of (by first | exact SubH.refl | exact SubH.app | exact SubH.both (by simp [subL])) ?_ | (refine ⟨?_, AAt.of (by first | exact SubH.refl | exact SubH.app | exact SubH.both (by simp [subL])) ?_⟩; · omega)
              refine AAny.one 3 4 (by kernel_rfl) (by kernel_rfl) (by kernel_rfl) ?_
              simp -dsimp -implicitDefEqProofs (disch := omega) [go_sem, -List.getD_eq_getElem?_getD, ite_yes, ht, hlt, nf, tf, n1, n2, n3, n4, n5, m1, m2, m3, m4, m5, k1, k2, nf']
              first | refine AAt.of (by first | exact SubH.refl | exact SubH.app | exact SubH.both (by simp [subL])) ?_ | (refine ⟨?_, AAt.of (by first | exact SubH.refl | exact SubH.app | exact SubH.both (by simp [subL])) ?_⟩; · omega)
              refine AAny.one 2 11 (by kernel_rfl) (by kernel_rfl) (by kernel_rfl) ?_
              simp -dsimp -implicitDefEqProofs (disch := omega) [go_sem, -List.getD_eq_getElem?_getD, ite_yes, ht, hlt, nf, tf, n1, n2, n3, n4, n5, m1, m2, m3, m4, m5, k1, k2, nf']
              first | refine AAt.of (by first | exact SubH.refl | exact SubH.app | exact SubH.both (by simp [subL])) ?_ | (refine ⟨?_, AAt.of (by first | exact SubH.refl | exact SubH.app | exact SubH.both (by simp [subL])) ?_⟩; · omega)
              refine AAny.one 1 15 (by kernel_rfl) (by kernel_rfl) (by kernel_rfl) ?_
              simp -dsimp -implicitDefEqProofs (disch := omega) [go_sem, -List.getD_eq_getElem?_getD, ite_yes, ht, hlt, nf, tf, n1, n2, n3, n4, n5, m1, m2, m3, m4, m5, k1, k2, nf']
              first | refine AAt.of (by first | exact SubH.refl | exact SubH.app | exact SubH.both (by simp [subL])) ?_ | (refine ⟨?_, AAt.of (by first | exact SubH.refl | exact SubH.app | exact SubH.both (by simp [subL])) ?_⟩; · omega)
              refine AAny.takes (fuel := 0) (by kernel_rfl) (by kernel_rfl) [16] (by kernel_rfl) (by kernel_rfl) ?_
              simp -dsimp -implicitDefEqProofs (disch := omega) [go_sem, -List.getD_eq_getElem?_getD, ite_yes, ht, hlt, nf, tf, n1, n2, n3, n4, n5, m1, m2, m3, m4, m5, k1, k2, nf']
              refine AAny.done (by kernel_rfl) ?_
              simp -dsimp -implicitDefEqProofs (disch := omega) [go_sem, -List.getD_eq_getElem?_getD, ite_yes, ht, hlt, nf, tf, n1, n2, n3, n4, n5, m1, m2, m3, m4, m5, k1, k2, nf']
              refine LoopEnd.of (i + 1) (by omega) (by omega) (weakS_mk [some 0, some 6] rfl ?_ (by simp -dsimp -implicitDefEqProofs (disch := omega) [go_sem, -List.getD_eq_getElem?_getD, ite_yes, ht, e4, unl]))
              simp -dsimp -implicitDefEqProofs (disch := omega) [go_sem, -List.getD_eq_getElem?_getD, ite_yes, ht, hlt, nf, tf, n1, n2, n3, n4, n5, m1, m2, m3, m4, m5, k1, k2, us, hN'e, hT'e]
              exact ⟨.inl ⟨rfl, nmE_flat _⟩, .inl ⟨hT, hT ▸ nmE_flat T'⟩⟩
          · simp -dsimp -implicitDefEqProofs (disch := omega) [go_sem, -List.getD_eq_getElem?_getD, ite_yes, ht, hlt, nf, tf, n1, n2, n3, n4, n5, m1, m2, m3, m4, m5, k1, k2, nf']
            first | refine AAt.of (by first | exact SubH.refl | exact SubH.app | exact SubH.both (by simp [subL])) ?_ | (refine ⟨?_, AAt.of (by first | exact SubH.refl | exact SubH.app | exact SubH.both (by simp [subL])) ?_⟩; · omega)
            refine AAny.one 4 0 (by kernel_rfl) (by kernel_rfl) (by kernel_rfl) ?_
            simp -dsimp -implicitDefEqProofs (disch := omega) [go_sem, -List.getD_eq_getElem?_getD, ite_yes, ht, hlt, nf, tf, n1, n2, n3, n4, n5, m1, m2, m3, m4, m5, k1, k2, nf']
            first | refine AAt.of (by first | exact SubH.refl | exact SubH.app | exact SubH.both (by simp [subL])) ?_ | (refine ⟨?_, AAt.of (by first | exact SubH.refl | exact SubH.app | exact SubH.both (by simp [subL])) ?_⟩; · omega)
            refine AAny.one 3 4 (by kernel_rfl) (by kernel_rfl) (by kernel_rfl) ?_
            simp -dsimp -implicitDefEqProofs (disch := omega) [go_sem, -List.getD_eq_getElem?_getD, ite_yes, ht, hlt, nf, tf, n1, n2, n3, n4, n5, m1, m2, m3, m4, m5, k1, k2, nf']
            first | refine AAt.of (by first | exact SubH.refl | exact SubH.app | exact SubH.both (by simp [subL])) ?_ | (refine ⟨?_, AAt.of (by first | exact SubH.refl | exact SubH.app | exact SubH.both (by simp [subL])) ?_⟩; · omega)
            refine AAny.one 2 11 (by kernel_rfl) (by kernel_rfl) (by kernel_rfl) ?_
            simp -dsimp -implicitDefEqProofs (disch := omega) [go_sem, -List.getD_eq_getElem?_getD, ite_yes, ht, hlt, nf, tf, n1, n2, n3, n4, n5, m1, m2, m3, m4, m5, k1, k2, nf']
            first | refine AAt.of (by first | exact SubH.refl | exact SubH.app | exact SubH.both (by simp [subL])) ?_ | (refine ⟨?_, AAt.of (by first | exact SubH.refl | exact SubH.app | exact SubH.both (by simp [subL])) ?_⟩; · omega)
            refine AAny.one 1 15 (by kernel_rfl) (by kernel_rfl) (by kernel_rfl) ?_
            simp -dsimp -implicitDefEqProofs (disch := omega) [go_sem, -List.getD_eq_getElem?_getD, ite_yes, ht, hlt, nf, tf, n1, n2, n3, n4, n5, m1, m2, m3, m4, m5, k1, k2, nf']
            first | refine AAt.of (by first | exact SubH.refl | exact SubH.app | exact SubH.both (by simp [subL])) ?_ | (refine ⟨?_, AAt.of (by first | exact SubH.refl | exact SubH.app | exact SubH.both (by simp [subL])) ?_⟩; · omega)
            refine AAny.takes (fuel := 0) (by kernel_rfl) (by kernel_rfl) [16] (by kernel_rfl) (by kernel_rfl) ?_
            simp -dsimp -implicitDefEqProofs (disch := omega) [go_sem, -List.getD_eq_getElem?_getD, ite_yes, ht, hlt, nf, tf, n1, n2, n3, n4, n5, m1, m2, m3, m4, m5, k1, k2, nf']
            refine AAny.done (by kernel_rfl) ?_
            simp -dsimp -implicitDefEqProofs (disch := omega) [go_sem, -List.getD_eq_getElem?_getD, ite_yes, ht, hlt, nf, tf, n1, n2, n3, n4, n5, m1, m2, m3, m4, m5, k1, k2, nf']
            refine LoopEnd.of (i + 1) (by omega) (by omega) (weakS_mk [some 0, some 6] rfl ?_ (by simp -dsimp -implicitDefEqProofs (disch := omega) [go_sem, -List.getD_eq_getElem?_getD, ite_yes, ht, e4, unl]))
            simp -dsimp -implicitDefEqProofs (disch := omega) [go_sem, -List.getD_eq_getElem?_getD, ite_yes, ht, hlt, nf, tf, n1, n2, n3, n4, n5, m1, m2, m3, m4, m5, k1, k2, us, hN'e, hT'e]
            exact ⟨.inl ⟨rfl, nmE_flat _⟩, .inl ⟨hT, hT ▸ nmE_flat T'⟩⟩
        | succ k =>
          have hkn : k < n := by omega
          have hp : posA O x (k + 1) = if x.2.2.1 < (O.getD k alD).2.2.1 then posA O x k else k + 1 := rfl
          have cT := flatMap_cells nmE 1 (fun _ => rfl) 0 T k (by omega)
          rw [Nat.mul_one, tk k hkn] at cT
          simp only [nmE] at cT
          generalize (O.getD k alD).2.2.1 = y at hp cT
          simp -dsimp -implicitDefEqProofs (disch := omega) [go_sem, -List.getD_eq_getElem?_getD, ite_yes, ht]
          refine ADraw.quiet (by kernel_rfl) (by kernel_rfl) (by kernel_rfl) ?_
          simp -dsimp -implicitDefEqProofs (disch := omega) [go_sem, -List.getD_eq_getElem?_getD, ite_yes, ht, hkn, tf, cT, hlt, k2]
          refine AIf.of (fun h => ?_) (fun h => ?_)
          · rw [if_pos (of_decide_eq_true h)] at hp
            simp -dsimp -implicitDefEqProofs (disch := omega) [go_sem, -List.getD_eq_getElem?_getD, ite_yes, ht]
            refine LoopEnd.of k ⟨by omega, by rw [hpos, hp]⟩ (by omega) (weakS_mk [some 0, some 1] rfl ?_ (by simp -dsimp -implicitDefEqProofs (disch := omega) [go_sem, -List.getD_eq_getElem?_getD, ite_yes, ht]))
            simp -dsimp -implicitDefEqProofs (disch := omega) [go_sem, -List.getD_eq_getElem?_getD, ite_yes, hNe, hTe]
            exact ⟨.inl ⟨rfl, nmE_flat _⟩, .inl ⟨rfl, nmE_flat _⟩⟩
          · rw [if_neg (of_decide_eq_false h)] at hp
            rw [hp] at hpos
            have n1 := un_take N (k + 1)
            have n2 := un_drop N (k + 1)
            have n3 : (List.flatMap nmE (List.take (k + 1) N)).length = k + 1 := by rw [nmE_length, List.length_take]; omega
            have n4 : (List.flatMap nmE (List.drop (k + 1) N)).length = n - (k + 1) := by rw [nmE_length, List.length_drop]; omega
            have n5 : List.take (n - (k + 1)) (List.flatMap nmE (List.drop (k + 1) N)) = List.flatMap nmE (List.drop (k + 1) N) := List.take_of_length_le (by omega)
            have m1 := un_take T (k + 1)
            have m2 := un_drop T (k + 1)
            have m3 : (List.flatMap nmE (List.take (k + 1) T)).length = k + 1 := by rw [nmE_length, List.length_take]; omega
            have m4 : (List.flatMap nmE (List.drop (k + 1) T)).length = n - (k + 1) := by rw [nmE_length, List.length_drop]; omega
            have m5 : List.take (n - (k + 1)) (List.flatMap nmE (List.drop (k + 1) T)) = List.flatMap nmE (List.drop (k + 1) T) := List.take_of_length_le (by omega)
            have e4 : (k + 1) + 1 + (n - (k + 1)) = n + 1 := by omega
            have hN : N'.flatMap nmE = (N.take (k + 1)).flatMap nmE ++ Value.int .i64 x.1 :: (N.drop (k + 1)).flatMap nmE := hi1 (k + 1) hpos
            have hT : T'.flatMap nmE = (T.take (k + 1)).flatMap nmE ++ Value.int .i64 x.2.2.1 :: (T.drop (k + 1)).flatMap nmE := hi2 (k + 1) hpos
            try simp only [List.drop_zero, List.take_zero, List.flatMap_nil, Nat.sub_zero, List.nil_append, Nat.zero_add] at n1 n2 n3 n4 n5 m1 m2 m3 m4 m5 e4 hN hT
            simp -dsimp -implicitDefEqProofs (disch := omega) [go_sem, -List.getD_eq_getElem?_getD, ite_yes, ht, hlt, nf, tf, n1, n2, n3, n4, n5, m1, m2, m3, m4, m5, k1, k2]
            refine ADraw.mid [(0, .slice (some ⟨t, 0, none⟩) l.length c), (4, .slice (some ⟨H.length, 0, none⟩) (n + 1) 0), (5, .slice (some ⟨H.length + 1, 0, none⟩) n 0), (6, .int .i64 i), (7, .int .i64 (k + 1 : Nat))] (H ++ [some ⟨N'.flatMap nmE, true, 3, 1⟩, some ⟨T.flatMap nmE, true, 3, 1⟩]) ?_ ?_
            · skip
              refine ADraw.any (H ++ [some ⟨N.flatMap nmE, true, 3, 1⟩, some ⟨T.flatMap nmE, true, 3, 1⟩]) (by kernel_rfl) (by first | exact SubH.refl | exact SubH.app | exact SubH.both (by simp [subL])) ?_
              refine AAny.takes (fuel := 6) (by kernel_rfl) (by kernel_rfl) [1, 2, 3, 5, 6, 7, 8, 9, 12, 13, 14] (by kernel_rfl) (by kernel_rfl) ?_
              simp -dsimp -implicitDefEqProofs (disch := omega) [go_sem, -List.getD_eq_getElem?_getD, ite_yes, ht, hlt, nf, tf, n1, n2, n3, n4, n5, m1, m2, m3, m4, m5, k1, k2]
              refine AAny.two 5 0 10 (by kernel_rfl) (by kernel_rfl) (by kernel_rfl) ?_ ?_
              · simp -dsimp -implicitDefEqProofs (disch := omega) [go_sem, -List.getD_eq_getElem?_getD, ite_yes, ht, hlt, nf, tf, n1, n2, n3, n4, n5, m1, m2, m3, m4, m5, k1, k2]
                first | refine AAt.of (by first | exact SubH.refl | exact SubH.app | exact SubH.both (by simp [subL])) ?_ | (refine ⟨?_, AAt.of (by first | exact SubH.refl | exact SubH.app | exact SubH.both (by simp [subL])) ?_⟩; · omega)
                refine AAny.two 4 4 10 (by kernel_rfl) (by kernel_rfl) (by kernel_rfl) ?_ ?_
                · simp -dsimp -implicitDefEqProofs (disch := omega) [go_sem, -List.getD_eq_getElem?_getD, ite_yes, ht, hlt, nf, tf, n1, n2, n3, n4, n5, m1, m2, m3, m4, m5, k1, k2]
                  first | refine AAt.of (by first | exact SubH.refl | exact SubH.app | exact SubH.both (by simp [subL])) ?_ | (refine ⟨?_, AAt.of (by first | exact SubH.refl | exact SubH.app | exact SubH.both (by simp [subL])) ?_⟩; · omega)
                  refine AAny.one 3 10 (by kernel_rfl) (by kernel_rfl) (by kernel_rfl) ?_
                  simp -dsimp -implicitDefEqProofs (disch := omega) [go_sem, -List.getD_eq_getElem?_getD, ite_yes, ht, hlt, nf, tf, n1, n2, n3, n4, n5, m1, m2, m3, m4, m5, k1, k2]
                  first | refine AAt.of (by first | exact SubH.refl | exact SubH.app | exact SubH.both (by simp [subL])) ?_ | (refine ⟨?_, AAt.of (by first | exact SubH.refl | exact SubH.app | exact SubH.both (by simp [subL])) ?_⟩; · omega)
                  refine AAny.one 2 11 (by kernel_rfl) (by kernel_rfl) (by kernel_rfl) ?_
                  simp -dsimp -implicitDefEqProofs (disch := omega) [go_sem, -List.getD_eq_getElem?_getD, ite_yes, ht, hlt, nf, tf, n1, n2, n3, n4, n5, m1, m2, m3, m4, m5, k1, k2]
                  first | refine AAt.of (by first | exact SubH.refl | exact SubH.app | exact SubH.both (by simp [subL])) ?_ | (refine ⟨?_, AAt.of (by first | exact SubH.refl | exact SubH.app | exact SubH.both (by simp [subL])) ?_⟩; · omega)
                  refine AAny.one 1 15 (by kernel_rfl) (by kernel_rfl) (by kernel_rfl) ?_
                  simp -dsimp -implicitDefEqProofs (disch := omega) [go_sem, -List.getD_eq_getElem?_getD, ite_yes, ht, hlt, nf, tf, n1, n2, n3, n4, n5, m1, m2, m3, m4, m5, k1, k2]
                  first | refine AAt.of (by first | exact SubH.refl | exact SubH.app | exact SubH.both (by simp [subL])) ?_ | (refine ⟨?_, AAt.of (by first | exact SubH.refl | exact SubH.app | exact SubH.both (by simp [subL])) ?_⟩; · omega)
                  refine AAny.takes (fuel := 0) (by kernel_rfl) (by kernel_rfl) [16] (by kernel_rfl) (by kernel_rfl) ?_
                  simp -dsimp -implicitDefEqProofs (disch := omega) [go_sem, -List.getD_eq_getElem?_getD, ite_yes, ht, hlt, nf, tf, n1, n2, n3, n4, n5, m1, m2, m3, m4, m5, k1, k2]
                  refine AAny.done (by kernel_rfl) ?_
                  simp -dsimp -implicitDefEqProofs (disch := omega) [go_sem, -List.getD_eq_getElem?_getD, ite_yes, ht, hlt, nf, tf, n1, n2, n3, n4, n5, m1, m2, m3, m4, m5, k1, k2]
                  refine ⟨weakS_mk [some 6, some 1] rfl ?_ (by simp -dsimp -implicitDefEqProofs (disch := omega) [go_sem, -List.getD_eq_getElem?_getD, ite_yes, ht, e4])⟩
                  simp -dsimp -implicitDefEqProofs (disch := omega) [go_sem, -List.getD_eq_getElem?_getD, ite_yes, ht, hlt, nf, tf, n1, n2, n3, n4, n5, m1, m2, m3, m4, m5, k1, k2]
                  exact ⟨.inl ⟨hN, hN ▸ nmE_flat N'⟩, .inl ⟨rfl, nmE_flat _⟩⟩
                · simp -dsimp -implicitDefEqProofs (disch := omega) [go_sem, -List.getD_eq_getElem?_getD, ite_yes, ht, hlt, nf, tf, n1, n2, n3, n4, n5, m1, m2, m3, m4, m5, k1, k2]
                  first | refine AAt.of (by first | exact SubH.refl | exact SubH.app | exact SubH.both (by simp [subL])) ?_ | (refine ⟨?_, AAt.of (by first | exact SubH.refl | exact SubH.app | exact SubH.both (by simp [subL])) ?_⟩; · omega)
                  refine AAny.one 3 4 (by kernel_rfl) (by kernel_rfl) (by kernel_rfl) ?_
                  simp -dsimp -implicitDefEqProofs (disch := omega) [go_sem, -List.getD_eq_getElem?_getD, ite_yes, ht, hlt, nf, tf, n1, n2, n3, n4, n5, m1, m2, m3, m4, m5, k1, k2]
                  first | refine AAt.of (by first | exact SubH.refl | exact SubH.app | exact SubH.both (by simp [subL])) ?_ | (refine ⟨?_, AAt.of (by first | exact SubH.refl | exact SubH.app | exact SubH.both (by simp [subL])) ?_⟩; · omega)
                  refine AAny.one 2 11 (by kernel_rfl) (by kernel_rfl) (by kernel_rfl) ?_
                  simp -dsimp -implicitDefEqProofs (disch := omega) [go_sem, -List.getD_eq_getElem?_getD, ite_yes, ht, hlt, nf, tf, n1, n2, n3, n4, n5, m1, m2, m3, m4, m5, k1, k2]
                  first | refine AAt.of (by first | exact SubH.refl | exact SubH.app | exact SubH.both (by simp [subL])) ?_ | (refine ⟨?_, AAt.of (by first | exact SubH.refl | exact SubH.app | exact SubH.both (by simp [subL])) ?_⟩; · omega)
                  refine AAny.one 1 15 (by kernel_rfl) (by kernel_rfl) (by kernel_rfl) ?_
                  simp -dsimp -implicitDefEqProofs (disch := omega) [go_sem, -List.getD_eq_getElem?_getD, ite_yes, ht, hlt, nf, tf, n1, n2, n3, n4, n5, m1, m2, m3, m4, m5, k1, k2]
                  first | refine AAt.of (by first | exact SubH.refl | exact SubH.app | exact SubH.both (by simp [subL])) ?_ | (refine ⟨?_, AAt.of (by first | exact SubH.refl | exact SubH.app | exact SubH.both (by simp [subL])) ?_⟩; · omega)
                  refine AAny.takes (fuel := 0) (by kernel_rfl) (by kernel_rfl) [16] (by kernel_rfl) (by kernel_rfl) ?_
                  simp -dsimp -implicitDefEqProofs (disch := omega) [go_sem, -List.getD_eq_getElem?_getD, ite_yes, ht, hlt, nf, tf, n1, n2, n3, n4, n5, m1, m2, m3, m4, m5, k1, k2]
                  refine AAny.done (by kernel_rfl) ?_
                  simp -dsimp -implicitDefEqProofs (disch := omega) [go_sem, -List.getD_eq_getElem?_getD, ite_yes, ht, hlt, nf, tf, n1, n2, n3, n4, n5, m1, m2, m3, m4, m5, k1, k2]
                  refine ⟨weakS_mk [some 6, some 1] rfl ?_ (by simp -dsimp -implicitDefEqProofs (disch := omega) [go_sem, -List.getD_eq_getElem?_getD, ite_yes, ht, e4])⟩
                  simp -dsimp -implicitDefEqProofs (disch := omega) [go_sem, -List.getD_eq_getElem?_getD, ite_yes, ht, hlt, nf, tf, n1, n2, n3, n4, n5, m1, m2, m3, m4, m5, k1, k2]
                  exact ⟨.inl ⟨hN, hN ▸ nmE_flat N'⟩, .inl ⟨rfl, nmE_flat _⟩⟩
              · simp -dsimp -implicitDefEqProofs (disch := omega) [go_sem, -List.getD_eq_getElem?_getD, ite_yes, ht, hlt, nf, tf, n1, n2, n3, n4, n5, m1, m2, m3, m4, m5, k1, k2]
                first | refine AAt.of (by first | exact SubH.refl | exact SubH.app | exact SubH.both (by simp [subL])) ?_ | (refine ⟨?_, AAt.of (by first | exact SubH.refl | exact SubH.app | exact SubH.both (by simp [subL])) ?_⟩; · omega)
                refine AAny.one 4 0 (by kernel_rfl) (by kernel_rfl) (by kernel_rfl) ?_
                simp -dsimp -implicitDefEqProofs (disch := omega) [go_sem, -List.getD_eq_getElem?_getD, ite_yes, ht, hlt, nf, tf, n1, n2, n3, n4, n5, m1, m2, m3, m4, m5, k1, k2]
                first | refine AAt.of (by first | exact SubH.refl | exact SubH.app | exact SubH.both (by simp [subL])) ?_ | (refine ⟨?_, AAt.of (by first | exact SubH.refl | exact SubH.app | exact SubH.both (by simp [subL])) ?_⟩; · omega)
                refine AAny.one 3 4 (by kernel_rfl) (by kernel_rfl) (by kernel_rfl) ?_
                simp -dsimp -implicitDefEqProofs (disch := omega) [go_sem, -List.getD_eq_getElem?_getD, ite_yes, ht, hlt, nf, tf, n1, n2, n3, n4, n5, m1, m2, m3, m4, m5, k1, k2]
                first | refine AAt.of (by first | exact SubH.refl | exact SubH.app | exact SubH.both (by simp [subL])) ?_ | (refine ⟨?_, AAt.of (by first | exact SubH.refl | exact SubH.app | exact SubH.both (by simp [subL])) ?_⟩; · omega)
                refine AAny.one 2 11 (by kernel_rfl) (by kernel_rfl) (by kernel_rfl) ?_
                simp -dsimp -implicitDefEqProofs (disch := omega) [go_sem, -List.getD_eq_getElem?_getD, ite_yes, ht, hlt, nf, tf, n1, n2, n3, n4, n5, m1, m2, m3, m4, m5, k1, k2]
                first | refine AAt.of (by first | exact SubH.refl | exact SubH.app | exact SubH.both (by simp [subL])) ?_ | (refine ⟨?_, AAt.of (by first | exact SubH.refl | exact SubH.app | exact SubH.both (by simp [subL])) ?_⟩; · omega)
                refine AAny.one 1 15 (by kernel_rfl) (by kernel_rfl) (by kernel_rfl) ?_
                simp -dsimp -implicitDefEqProofs (disch := omega) [go_sem, -List.getD_eq_getElem?_getD, ite_yes, ht, hlt, nf, tf, n1, n2, n3, n4, n5, m1, m2, m3, m4, m5, k1, k2]
                first | refine AAt.of (by first | exact SubH.refl | exact SubH.app | exact SubH.both (by simp [subL])) ?_ | (refine ⟨?_, AAt.of (by first | exact SubH.refl | exact SubH.app | exact SubH.both (by simp [subL])) ?_⟩; · omega)
                refine AAny.takes (fuel := 0) (by kernel_rfl) (by kernel_rfl) [16] (by kernel_rfl) (by kernel_rfl) ?_
                simp -dsimp -implicitDefEqProofs (disch := omega) [go_sem, -List.getD_eq_getElem?_getD, ite_yes, ht, hlt, nf, tf, n1, n2, n3, n4, n5, m1, m2, m3, m4, m5, k1, k2]
                refine AAny.done (by kernel_rfl) ?_
                simp -dsimp -implicitDefEqProofs (disch := omega) [go_sem, -List.getD_eq_getElem?_getD, ite_yes, ht, hlt, nf, tf, n1, n2, n3, n4, n5, m1, m2, m3, m4, m5, k1, k2]
                refine ⟨weakS_mk [some 6, some 1] rfl ?_ (by simp -dsimp -implicitDefEqProofs (disch := omega) [go_sem, -List.getD_eq_getElem?_getD, ite_yes, ht, e4])⟩
                simp -dsimp -implicitDefEqProofs (disch := omega) [go_sem, -List.getD_eq_getElem?_getD, ite_yes, ht, hlt, nf, tf, n1, n2, n3, n4, n5, m1, m2, m3, m4, m5, k1, k2]
                exact ⟨.inl ⟨hN, hN ▸ nmE_flat N'⟩, .inl ⟨rfl, nmE_flat _⟩⟩
            have nf' : (N'.flatMap nmE).length = n + 1 := by rw [nmE_length, nl']; omega
            simp -dsimp -implicitDefEqProofs (disch := omega) [go_sem, -List.getD_eq_getElem?_getD, ite_yes, ht, hlt, nf, tf, n1, n2, n3, n4, n5, m1, m2, m3, m4, m5, k1, k2, nf']
            refine ADraw.any (H ++ [some ⟨N'.flatMap nmE, true, 3, 1⟩, some ⟨T.flatMap nmE, true, 3, 1⟩]) (by kernel_rfl) (by first | exact SubH.refl | exact SubH.app | exact SubH.both (by simp [subL])) ?_
            refine AAny.takes (fuel := 6) (by kernel_rfl) (by kernel_rfl) [1, 2, 3, 5, 6, 7, 8, 9, 12, 13, 14] (by kernel_rfl) (by kernel_rfl) ?_
            simp -dsimp -implicitDefEqProofs (disch := omega) [go_sem, -List.getD_eq_getElem?_getD, ite_yes, ht, hlt, nf, tf, n1, n2, n3, n4, n5, m1, m2, m3, m4, m5, k1, k2, nf']
            refine AAny.two 5 0 10 (by kernel_rfl) (by kernel_rfl) (by kernel_rfl) ?_ ?_
            · simp -dsimp -implicitDefEqProofs (disch := omega) [go_sem, -List.getD_eq_getElem?_getD, ite_yes, ht, hlt, nf, tf, n1, n2, n3, n4, n5, m1, m2, m3, m4, m5, k1, k2, nf']
              first | refine AAt.of (by first | exact SubH.refl | exact SubH.app | exact SubH.both (by simp [subL])) ?_ | (refine ⟨?_, AAt.of (by first | exact SubH.refl | exact SubH.app | exact SubH.both (by simp [subL])) ?_⟩; · omega)
              refine AAny.two 4 4 10 (by kernel_rfl) (by kernel_rfl) (by kernel_rfl) ?_ ?_
              · simp -dsimp -implicitDefEqProofs (disch := omega) [go_sem, -List.getD_eq_getElem?_getD, ite_yes, ht, hlt, nf, tf, n1, n2, n3, n4, n5, m1, m2, m3, m4, m5, k1, k2, nf']
                first | refine AAt.of (by first | exact SubH.refl | exact SubH.app | exact SubH.both (by simp [subL])) ?_ | (refine ⟨?_, AAt.of (by first | exact SubH.refl | exact SubH.app | exact SubH.both (by simp [subL])) ?_⟩; · omega)
                refine AAny.one 3 10 (by kernel_rfl) (by kernel_rfl) (by kernel_rfl) ?_
                simp -dsimp -implicitDefEqProofs (disch := omega) [go_sem, -List.getD_eq_getElem?_getD, ite_yes, ht, hlt, nf, tf, n1, n2, n3, n4, n5, m1, m2, m3, m4, m5, k1, k2, nf']
                first | refine AAt.of (by first | exact SubH.refl | exact SubH.app | exact SubH.both (by simp [subL])) ?_ | (refine ⟨?_, AAt.of (by first | exact SubH.refl | exact SubH.app | exact SubH.both (by simp [subL])) ?_⟩; · omega)
                refine AAny.one 2 11 (by kernel_rfl) (by kernel_rfl) (by kernel_rfl) ?_
                simp -dsimp -implicitDefEqProofs (disch := omega) [go_sem, -List.getD_eq_getElem?_getD, ite_yes, ht, hlt, nf, tf, n1, n2, n3, n4, n5, m1, m2, m3, m4, m5, k1, k2, nf']
                first | refine AAt.of (by first | exact SubH.refl | exact SubH.app | exact SubH.both (by simp [subL])) ?_ | (refine ⟨?_, AAt.of (by first | exact SubH.refl | exact SubH.app | exact SubH.both (by simp [subL])) ?_⟩; · omega)
                refine AAny.one 1 15 (by kernel_rfl) (by kernel_rfl) (by kernel_rfl) ?_
                simp -dsimp -implicitDefEqProofs (disch := omega) [go_sem, -List.getD_eq_getElem?_getD, ite_yes, ht, hlt, nf, tf, n1, n2, n3, n4, n5, m1, m2, m3, m4, m5, k1, k2, nf']
                first | refine AAt.of (by first | exact SubH.refl | exact SubH.app | exact SubH.both (by simp [subL])) ?_ | (refine ⟨?_, AAt.of (by first | exact SubH.refl | exact SubH.app | exact SubH.both (by simp [subL])) ?_⟩; · omega)
                refine AAny.takes (fuel := 0) (by kernel_rfl) (by kernel_rfl) [16] (by kernel_rfl) (by kernel_rfl) ?_
                simp -dsimp -implicitDefEqProofs (disch := omega) [go_sem, -List.getD_eq_getElem?_getD, ite_yes, ht, hlt, nf, tf, n1, n2, n3, n4, n5, m1, m2, m3, m4, m5, k1, k2, nf']
                refine AAny.done (by kernel_rfl) ?_
                simp -dsimp -implicitDefEqProofs (disch := omega) [go_sem, -List.getD_eq_getElem?_getD, ite_yes, ht, hlt, nf, tf, n1, n2, n3, n4, n5, m1, m2, m3, m4, m5, k1, k2, nf']
                refine LoopEnd.of (i + 1) (by omega) (by omega) (weakS_mk [some 0, some 6] rfl ?_ (by simp -dsimp -implicitDefEqProofs (disch := omega) [go_sem, -List.getD_eq_getElem?_getD, ite_yes, ht, e4, unl]))
                simp -dsimp -implicitDefEqProofs (disch := omega) [go_sem, -List.getD_eq_getElem?_getD, ite_yes, ht, hlt, nf, tf, n1, n2, n3, n4, n5, m1, m2, m3, m4, m5, k1, k2, us, hN'e, hT'e]
                exact ⟨.inl ⟨rfl, nmE_flat _⟩, .inl ⟨hT, hT ▸ nmE_flat T'⟩⟩
              · simp -dsimp -implicitDefEqProofs (disch := omega) [go_sem, -List.getD_eq_getElem?_getD, ite_yes, ht, hlt, nf, tf, n1, n2, n3, n4, n5, m1, m2, m3, m4, m5, k1, k2, nf']
                first | refine AAt.of (by first | exact SubH.refl | exact SubH.app | exact SubH.both (by simp [subL])) ?_ | (refine ⟨?_, AAt.of (by first | exact SubH.refl | exact SubH.app | exact SubH.both (by simp [subL])) ?_⟩; · omega)
                refine AAny.one 3 4 (by kernel_rfl) (by kernel_rfl) (by kernel_rfl) ?_
                simp -dsimp -implicitDefEqProofs (disch := omega) [go_sem, -List.getD_eq_getElem?_getD, ite_yes, ht, hlt, nf, tf, n1, n2, n3, n4, n5, m1, m2, m3, m4, m5, k1, k2, nf']
                first | refine AAt.of (by first | exact SubH.refl | exact SubH.app | exact SubH.both (by simp [subL])) ?_ | (refine ⟨?_, AAt.of (by first | exact SubH.refl | exact SubH.app | exact SubH.both (by simp [subL])) ?_⟩; · omega)
                refine AAny.one 2 11 (by kernel_rfl) (by kernel_rfl) (by kernel_rfl) ?_
                simp -dsimp -implicitDefEqProofs (disch := omega) [go_sem, -List.getD_eq_getElem?_getD, ite_yes, ht, hlt, nf, tf, n1, n2, n3, n4, n5, m1, m2, m3, m4, m5, k1, k2, nf']
                first | refine AAt.of (by first | exact SubH.refl | exact SubH.app | exact SubH.both (by simp [subL])) ?_ | (refine ⟨?_, AAt.of (by first | exact SubH.refl | exact SubH.app | exact SubH.both (by simp [subL])) ?_⟩; · omega)
                refine AAny.one 1 15 (by kernel_rfl) (by kernel_rfl) (by kernel_rfl) ?_
                simp -dsimp -implicitDefEqProofs (disch := omega) [go_sem, -List.getD_eq_getElem?_getD, ite_yes, ht, hlt, nf, tf, n1, n2, n3, n4, n5, m1, m2, m3, m4, m5, k1, k2, nf']
                first | refine AAt.of (by first | exact SubH.refl | exact SubH.app | exact SubH.both (by simp [subL])) ?_ | (refine ⟨?_, AAt.of (by first | exact SubH.refl | exact SubH.app | exact SubH.both (by simp [subL])) ?_⟩; · omega)
                refine AAny.takes (fuel := 0) (by kernel_rfl) (by kernel_rfl) [16] (by kernel_rfl) (by kernel_rfl) ?_
                simp -dsimp -implicitDefEqProofs (disch := omega) [go_sem, -List.getD_eq_getElem?_getD, ite_yes, ht, hlt, nf, tf, n1, n2, n3, n4, n5, m1, m2, m3, m4, m5, k1, k2, nf']
                refine AAny.done (by kernel_rfl) ?_
                simp -dsimp -implicitDefEqProofs (disch := omega) [go_sem, -List.getD_eq_getElem?_getD, ite_yes, ht, hlt, nf, tf, n1, n2, n3, n4, n5, m1, m2, m3, m4, m5, k1, k2, nf']
                refine LoopEnd.of (i + 1) (by omega) (by omega) (weakS_mk [some 0, some 6] rfl ?_ (by simp -dsimp -implicitDefEqProofs (disch := omega) [go_sem, -List.getD_eq_getElem?_getD, ite_yes, ht, e4, unl]))
                simp -dsimp -implicitDefEqProofs (disch := omega) [go_sem, -List.getD_eq_getElem?_getD, ite_yes, ht, hlt, nf, tf, n1, n2, n3, n4, n5, m1, m2, m3, m4, m5, k1, k2, us, hN'e, hT'e]
                exact ⟨.inl ⟨rfl, nmE_flat _⟩, .inl ⟨hT, hT ▸ nmE_flat T'⟩⟩
            · simp -dsimp -implicitDefEqProofs (disch := omega) [go_sem, -List.getD_eq_getElem?_getD, ite_yes, ht, hlt, nf, tf, n1, n2, n3, n4, n5, m1, m2, m3, m4, m5, k1, k2, nf']
              first | refine AAt.of (by first | exact SubH.refl | exact SubH.app | exact SubH.both (by simp [subL])) ?_ | (refine ⟨?_, AAt.of (by first | exact SubH.refl | exact SubH.app | exact SubH.both (by simp [subL])) ?_⟩; · omega)
              refine AAny.one 4 0 (by kernel_rfl) (by kernel_rfl) (by kernel_rfl) ?_
              simp -dsimp -implicitDefEqProofs (disch := omega) [go_sem, -List.getD_eq_getElem?_getD, ite_yes, ht, hlt, nf, tf, n1, n2, n3, n4, n5, m1, m2, m3, m4, m5, k1, k2, nf']
              first | refine AAt.of (by first | exact SubH.refl | exact SubH.app | exact SubH.both (by simp [subL])) ?_ | (refine ⟨?_, AAt.of (by first | exact SubH.refl | exact SubH.app | exact SubH.both (by simp [subL])) ?_⟩; · omega)
              refine AAny.one 3 4 (by kernel_rfl) (by kernel_rfl) (by kernel_rfl) ?_
              simp -dsimp -implicitDefEqProofs (disch := omega) [go_sem, -List.getD_eq_getElem?_getD, ite_yes, ht, hlt, nf, tf, n1, n2, n3, n4, n5, m1, m2, m3, m4, m5, k1, k2, nf']
              first | refine AAt.of (by first | exact SubH.refl | exact SubH.app | exact SubH.both (by simp [subL])) ?_ | (refine ⟨?_, AAt.of (by first | exact SubH.refl | exact SubH.app | exact SubH.both (by simp [subL])) ?_⟩; · omega)
              refine AAny.one 2 11 (by kernel_rfl) (by kernel_rfl) (by kernel_rfl) ?_
              simp -dsimp -implicitDefEqProofs (disch := omega) [go_sem, -List.getD_eq_getElem?_getD, ite_yes, ht, hlt, nf, tf, n1, n2, n3, n4, n5, m1, m2, m3, m4, m5, k1, k2, nf']
              first | refine AAt.of (by first | exact SubH.refl | exact SubH.app | exact SubH.both (by simp [subL])) ?_ | (refine ⟨?_, AAt.of (by first | exact SubH.refl | exact SubH.app | exact SubH.both (by simp [subL])) ?_⟩; · omega)
              refine AAny.one 1 15 (by kernel_rfl) (by kernel_rfl) (by kernel_rfl) ?_
              simp -dsimp -implicitDefEqProofs (disch := omega) [go_sem, -List.getD_eq_getElem?_getD, ite_yes, ht, hlt, nf, tf, n1, n2, n3, n4, n5, m1, m2, m3, m4, m5, k1, k2, nf']
              first | refine AAt.of (by first | exact SubH.refl | exact SubH.app | exact SubH.both (by simp [subL])) ?_ | (refine ⟨?_, AAt.of (by first | exact SubH.refl | exact SubH.app | exact SubH.both (by simp [subL])) ?_⟩; · omega)
              refine AAny.takes (fuel := 0) (by kernel_rfl) (by kernel_rfl) [16] (by kernel_rfl) (by kernel_rfl) ?_
              simp -dsimp -implicitDefEqProofs (disch := omega) [go_sem, -List.getD_eq_getElem?_getD, ite_yes, ht, hlt, nf, tf, n1, n2, n3, n4, n5, m1, m2, m3, m4, m5, k1, k2, nf']
              refine AAny.done (by kernel_rfl) ?_
              simp -dsimp -implicitDefEqProofs (disch := omega) [go_sem, -List.getD_eq_getElem?_getD, ite_yes, ht, hlt, nf, tf, n1, n2, n3, n4, n5, m1, m2, m3, m4, m5, k1, k2, nf']
              refine LoopEnd.of (i + 1) (by omega) (by omega) (weakS_mk [some 0, some 6] rfl ?_ (by simp -dsimp -implicitDefEqProofs (disch := omega) [go_sem, -List.getD_eq_getElem?_getD, ite_yes, ht, e4, unl]))
              simp -dsimp -implicitDefEqProofs (disch := omega) [go_sem, -List.getD_eq_getElem?_getD, ite_yes, ht, hlt, nf, tf, n1, n2, n3, n4, n5, m1, m2, m3, m4, m5, k1, k2, us, hN'e, hT'e]
              exact ⟨.inl ⟨rfl, nmE_flat _⟩, .inl ⟨hT, hT ▸ nmE_flat T'⟩⟩
    · simp -dsimp -implicitDefEqProofs (disch := omega) [go_sem, -List.getD_eq_getElem?_getD, ite_yes, hlt]
      obtain rfl : i = l.length := by omega
      rw [show (unTo l l.length).length = (unN l).length by unfold unN; rw [List.length_map, ol]]
      refine fin_list [some 0] rfl ?_ (by simp -dsimp -implicitDefEqProofs (disch := omega) [go_sem, -List.getD_eq_getElem?_getD, ite_yes, ht])
      simp -dsimp -implicitDefEqProofs (disch := omega) [go_sem, -List.getD_eq_getElem?_getD, ite_yes]
      exact .inl ⟨rfl, nmE_flat _⟩
end Go.Proofs.Ytfmcibnpmmljkaa
