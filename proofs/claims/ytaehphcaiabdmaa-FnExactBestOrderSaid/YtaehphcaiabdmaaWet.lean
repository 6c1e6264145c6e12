/- What water reaches: the program's side; and that both sides say the same. -/
import Derived.Test.YtaehphcaiabdmaaDry
namespace Go.Proofs.Ytaehphcaiabdmaa
open Go.Am
set_option linter.unusedVariables false
set_option linter.unusedSimpArgs false
set_option maxRecDepth 100000
set_option maxHeartbeats 4000000

def atEnd (id nd : Int) (v : Vl) : Bool := decide (v.2.1 = id) && decide (v.2.2.1 = nd)
/-- whether an end of a pipe is open, as the program tells it: by the first valve there -/
def openI (l : List Vl) (p : Pp) (nd : Int) : Bool := decide (ixOf (atEnd p.1 nd) l < 0) || !(l.getD (ixOf (atEnd p.1 nd) l).toNat vl0).2.2.2
theorem ix_none {α : Type} (d : α) (p : α → Bool) (l : List α) (h : ∀ i, i < l.length → p (l.getD i d) = false) : ixOf p l = -1 := found_uniq (found_ix d p l) (.no h)
theorem ix_some {α : Type} (d : α) (p : α → Bool) (l : List α) {i : Nat} (hi : i < l.length) (h : p (l.getD i d) = true) : 0 ≤ ixOf p l := by
  rcases ix_cases d p l with ⟨_, h2⟩ | ⟨q, h2, _⟩
  · have := h2 i hi; rw [h] at this; cases this
  · omega
theorem goodV_twin {n : Int} {ps : List Pp} {l : List Vl} (h : goodV n ps l = true) {i : Nat} (hi : i < l.length) : twinV l i = false := by
  unfold goodV at h
  simp only [Bool.and_eq_true, decide_eq_true_eq] at h
  have := h.2.2 i hi
  unfold oneV at this
  simp only [Bool.and_eq_true, Bool.not_eq_true'] at this
  exact this.2.2.2
theorem goodV_net {n : Int} {ps : List Pp} {l : List Vl} (h : goodV n ps l = true) : NetAt n ps ∧ l.length ≤ 10 := by
  unfold goodV at h
  simp only [Bool.and_eq_true, decide_eq_true_eq] at h
  exact ⟨NetAt.of h.1, h.2.1⟩
theorem openI_openB {n : Int} {ps : List Pp} {l : List Vl} (h : goodV n ps l = true) (p : Pp) (nd : Int) : openI l p nd = openB l p nd := by
  unfold openI openB
  rcases ix_cases vl0 (atEnd p.1 nd) l with ⟨h1, h2⟩ | ⟨q, h1, h2, h3, h4⟩
  · have := ix_none vl0 (shutAt p.1 nd) l fun i hi => by
      have := h2 i hi
      unfold atEnd at this
      unfold shutAt
      rw [← Bool.and_assoc, this, Bool.false_and]
    rw [h1, this]; rfl
  · rw [h1, decide_eq_false (by omega), Bool.false_or, Int.toNat_natCast]
    cases hs : (l.getD q vl0).2.2.2
    · have := ix_none vl0 (shutAt p.1 nd) l fun i hi => by
        have e : shutAt p.1 nd (l.getD i vl0) = (atEnd p.1 nd (l.getD i vl0) && (l.getD i vl0).2.2.2) := by unfold shutAt atEnd; rw [Bool.and_assoc]
        rw [e]
        rcases Nat.lt_trichotomy i q with hlt | rfl | hgt
        · rw [h4 i hlt, Bool.false_and]
        · rw [hs, Bool.and_false]
        · cases ha : atEnd p.1 nd (l.getD i vl0)
          · rfl
          · have ht := goodV_twin h hi
            have : twinV l i = true := twinV_yes hgt h2 (by
              unfold atEnd at ha h3
              simp only [Bool.and_eq_true, decide_eq_true_eq] at ha h3
              unfold sameV
              rw [ha.1, ha.2, h3.1, h3.2]; simp)
            rw [this] at ht; cases ht
      rw [this]; rfl
    · have := ix_some vl0 (shutAt p.1 nd) l h2 (by
        have e : shutAt p.1 nd (l.getD q vl0) = (atEnd p.1 nd (l.getD q vl0) && (l.getD q vl0).2.2.2) := by unfold shutAt atEnd; rw [Bool.and_assoc]
        rw [e, h3, hs]; rfl)
      rw [decide_eq_true this]
/-- what depends on where pipes and nodes of valves are holds of valves that differ in what is shut alone -/
theorem reach_openI {n : Int} {ps : List Pp} {l : List Vl} (h : goodV n ps l = true) (src : Int) : reach (openI l) ps src = wetR ps l src :=
  run_congr (fun i hi k => openI_openB h _ _) 20 _
theorem aCells_roH {H : Heap} {t o n : Nat} : aCells (roH H) ⟨t, o, none⟩ n = aCells H ⟨t, o, none⟩ n := by
  rw [aCells_eq, aCells_eq, roH_get]
  cases H.get t <;> rfl
theorem valveAt1_A (v : Vl) (id nd : Int) (H : Heap) (u1 u2 : Nat) (hl1 : u1 < H.length) (hl2 : u2 < H.length) (c1 : aCells H ⟨u1, 0, none⟩ 1 = some [.int .i64 id]) (c2 : aCells H ⟨u2, 0, none⟩ 1 = some [.int .i64 nd]) :
    AFunC Try.prog 123 [.agg #[.int .i64 v.1, .int .i64 v.2.1, .int .i64 v.2.2.1, .bool v.2.2.2], .pointer (some ⟨u1, 0, none⟩), .pointer (some ⟨u2, 0, none⟩)] H (.bool (atEnd id nd v)) H := by
  refine AFunC.of_body Try.func123 (by kernel_rfl) rfl (by kernel_rfl) (by simp [Try.ntmps123]) ?_
  simp -dsimp -implicitDefEqProofs (disch := omega) [go_sem, -List.getD_eq_getElem?_getD, ite_yes, c1, c2, hl1, hl2]
  by_cases h1 : v.2.1 = id
  · simp -dsimp -implicitDefEqProofs (disch := omega) [go_sem, -List.getD_eq_getElem?_getD, ite_yes, h1, c1, c2, hl1, hl2]
    exact fin_flat rfl (by simp [atEnd, h1])
  · simp -dsimp -implicitDefEqProofs (disch := omega) [go_sem, -List.getD_eq_getElem?_getD, ite_yes, h1, c1, c2, hl1, hl2]
    exact fin_flat rfl (by simp [atEnd, h1])
theorem valveAt_A (l : List Vl) (hl : l.length ≤ 1048577) (c : Nat) (p : Pp) (nd : Int) (H : Heap) (t : Nat) (hS : Sl vlE H t l) :
    AFunC Try.prog 95 [.slice (some ⟨t, 0, none⟩) l.length c, .agg #[.int .i64 p.1, .int .i64 p.2.1, .int .i64 p.2.2.1, .int .i64 p.2.2.2], .int .i64 nd] H (.int .i64 (ixOf (atEnd p.1 nd) l)) H := by
  refine AFunC.of_body Try.func95 (by kernel_rfl) rfl (by kernel_rfl) (by simp [Try.ntmps95]) ?_
  have ht := hS.lt
  simp -dsimp -implicitDefEqProofs (disch := omega) [go_sem, -List.getD_eq_getElem?_getD, ite_yes, ht]
  have A := indexFuncVl_A l (atEnd p.1 nd) 123 #[.pointer (some ⟨H.length, 0, none⟩), .pointer (some ⟨H.length + 1, 0, none⟩)] hl c (H ++ [some ⟨[.int .i64 p.1, .int .i64 p.2.1, .int .i64 p.2.2.1, .int .i64 p.2.2.2], true, 88, 1⟩, some ⟨[.int .i64 nd], true, 3, 1⟩]) t hS.app (by simp -dsimp -implicitDefEqProofs (disch := omega) [go_sem, -List.getD_eq_getElem?_getD, ite_yes, ht])
    (fun k hk => valveAt1_A _ _ _ _ _ _ (by simp) (by simp) (by simp -dsimp -implicitDefEqProofs (disch := omega) [go_sem, -List.getD_eq_getElem?_getD, ite_yes, ht]) (by simp -dsimp -implicitDefEqProofs (disch := omega) [go_sem, -List.getD_eq_getElem?_getD, ite_yes, ht]))
  refine ACall.of A ?_
  simp -dsimp -implicitDefEqProofs (disch := omega) [go_sem, -List.getD_eq_getElem?_getD, ite_yes]
  exact fin_flat rfl rfl
theorem watered1_A (l : List Vl) (hl : l.length ≤ 1048577) (c : Nat) (p : Pp) (nd : Int) (H : Heap) (t u : Nat) (hS : Sl vlE H t l) (hu : u < H.length) (cu : aCells H ⟨u, 0, none⟩ 1 = some [.slice (some ⟨t, 0, none⟩) l.length c]) :
    AFunC Try.prog 94 [.agg #[.int .i64 p.1, .int .i64 p.2.1, .int .i64 p.2.2.1, .int .i64 p.2.2.2], .int .i64 nd, .pointer (some ⟨u, 0, none⟩)] H (.bool (openI l p nd)) H := by
  refine AFunC.of_body Try.func94 (by kernel_rfl) rfl (by kernel_rfl) (by simp [Try.ntmps94]) ?_
  have ht := hS.lt
  have c3 := fun k hk => hS.cell (s := 4) (fun _ => rfl) vl0 k 3 hk (by omega)
  simp only [vlE] at c3
  simp -dsimp -implicitDefEqProofs (disch := omega) [go_sem, -List.getD_eq_getElem?_getD, ite_yes, ht, hu, cu]
  refine ACall.of (valveAt_A l hl c p nd _ t hS.app) ?_
  have ho : openI l p nd = (decide (ixOf (atEnd p.1 nd) l < 0) || !(l.getD (ixOf (atEnd p.1 nd) l).toNat vl0).2.2.2) := rfl
  rcases ix_cases vl0 (atEnd p.1 nd) l with ⟨h1, _⟩ | ⟨q, h1, h2, _⟩
  · rw [h1] at ho ⊢
    simp -dsimp -implicitDefEqProofs (disch := omega) [go_sem, -List.getD_eq_getElem?_getD, ite_yes, ht, hu, cu]
    exact fin_flat rfl (by rw [ho]; rfl)
  · rw [h1] at ho ⊢
    rw [decide_eq_false (show ¬ (q : Int) < 0 by omega), Bool.false_or, Int.toNat_natCast] at ho
    have h3 : ¬ (q : Int) < 0 := by omega
    have c3' := c3 q h2
    simp -dsimp -implicitDefEqProofs (disch := omega) [go_sem, -List.getD_eq_getElem?_getD, ite_yes, ht, hu, cu, h3, h2, c3']
    exact fin_flat rfl (by rw [ho])
theorem watered_A (n : Int) (ps : List Pp) (cp : Nat) (l : List Vl) (hg : goodV n ps l = true) (c : Nat) (src : Int) (hsrc : 1 ≤ src ∧ src ≤ n) (H : Heap) (tp tv : Nat) (hP : Sl ppE H tp ps) (hV : Sl vlE H tv l) :
    AFunC Try.prog 70 [netV n tp ps.length cp, .slice (some ⟨tv, 0, none⟩) l.length c, .int .i64 src] H (.pointer (some ⟨H.length, 0, none⟩)) (H ++ [some ⟨(wetR ps l src).map .bool, true, 124, 1⟩]) := by
  refine AFunC.of_body Try.func70 (by kernel_rfl) rfl (by kernel_rfl) (by simp [Try.ntmps70]) ?_
  have htp := hP.lt
  have htv := hV.lt
  obtain ⟨hN, hl⟩ := goodV_net hg
  simp -dsimp -implicitDefEqProofs (disch := omega) [go_sem, -List.getD_eq_getElem?_getD, ite_yes, htp, htv]
  have A := reached_A n ps hN cp src hsrc (openI l) 94 #[.pointer (some ⟨H.length + 1, 0, none⟩)] (H ++ [some ⟨[.int .i64 n, .slice (some ⟨tp, 0, none⟩) ps.length cp], true, 33, 1⟩, some ⟨[.slice (some ⟨tv, 0, none⟩) l.length c], true, 35, 1⟩]) tp hP.app
    (fun K => Sl vlE K tv l ∧ H.length + 1 < K.length ∧ aCells K ⟨H.length + 1, 0, none⟩ 1 = some [.slice (some ⟨tv, 0, none⟩) l.length c])
    (fun L => ⟨(hV.app.app).ro, by simp [roH_length], by rw [aCells_roH]; simp -dsimp -implicitDefEqProofs (disch := omega) [go_sem, -List.getD_eq_getElem?_getD, ite_yes]⟩) (by simp -dsimp -implicitDefEqProofs (disch := omega) [go_sem, -List.getD_eq_getElem?_getD, ite_yes, htp]) (fun m hm js => by simp at hm; simp -dsimp -implicitDefEqProofs (disch := omega) [go_sem, -List.getD_eq_getElem?_getD, ite_yes, htp]; omega)
    (fun K hK p nd => watered1_A l (by omega) c p nd K tv _ hK.1 hK.2.1 hK.2.2)
  refine ACall.of A ?_
  simp -dsimp -implicitDefEqProofs (disch := omega) [go_sem, -List.getD_eq_getElem?_getD, ite_yes]
  refine fin_list [some 2] rfl ?_ (by simp -dsimp -implicitDefEqProofs (disch := omega) [go_sem, -List.getD_eq_getElem?_getD, ite_yes])
  simp -dsimp -implicitDefEqProofs (disch := omega) [go_sem, -List.getD_eq_getElem?_getD, ite_yes]
  exact .inl ⟨by rw [reach_openI hg], bl_flat _⟩
/-- the Ids of the dry pipes below k -/
def dryI (R : List Bool) (ps : List Pp) : Nat → List Int
  | 0 => []
  | k + 1 => if R.getD (9 + k) false then dryI R ps k else dryI R ps k ++ [(ps.getD k pp0).1]
theorem dryI_length (R : List Bool) (ps : List Pp) : ∀ k, (dryI R ps k).length ≤ k
  | 0 => Nat.le_refl _
  | k + 1 => by have := dryI_length R ps k; rw [dryI]; split <;> simp <;> omega
def blE (b : Bool) : List Value := [.bool b]
theorem blE_map (R : List Bool) : R.map Value.bool = R.flatMap blE := by
  induction R with
  | nil => rfl
  | cons b R ih => simp only [List.map_cons, List.flatMap_cons, ih]; rfl
theorem nodesAndPipes_A (n : Int) (ps : List Pp) (hN : NetAt n ps) (cp : Nat) (R : List Bool) (hR : R.length = 19) (H : Heap) (tp u : Nat) (hP : Sl ppE H tp ps) (hU : Sl blE H u R) :
    AFunC Try.prog 78 [netV n tp ps.length cp, .pointer (some ⟨u, 0, none⟩), .bool false] H
      (.tuple #[.slice (some ⟨H.length, 0, none⟩) (dryN R n.toNat).length 0, .slice (some ⟨H.length + 1, 0, none⟩) (dryI R ps ps.length).length 0])
      (H ++ [some ⟨(dryN R n.toNat).flatMap nmE, true, 3, 1⟩, some ⟨(dryI R ps ps.length).flatMap nmE, true, 3, 1⟩]) := by
  refine AFunC.of_body Try.func78 (by kernel_rfl) rfl (by kernel_rfl) (by simp [Try.ntmps78]) ?_
  have htp := hP.lt
  have htu := hU.lt
  have hn := hN.f_n
  have hpl := hN.f_len
  have cs := fun k hk => hP.cells (s := 4) (fun _ => rfl) pp0 k hk
  simp only [ppE] at cs
  have cu := fun k hk => hU.one (g := Value.bool) false k hk
  obtain ⟨q, rfl⟩ : ∃ q : Nat, n = (q : Int) := ⟨n.toNat, by omega⟩
  rw [Int.toNat_natCast]
  simp -dsimp -implicitDefEqProofs (disch := omega) [go_sem, -List.getD_eq_getElem?_getD, ite_yes, htp, htu]
  refine ALoop.intro (ι := Nat) (fun k => k ≤ q) (fun k => [(1, .pointer (some ⟨u, 0, none⟩)), (2, .bool false), (3, .pointer (some ⟨H.length, 0, none⟩)), (8, .slice (some ⟨H.length + 1, 0, none⟩) (dryN R k).length 0), (9, .slice (some ⟨H.length + 2, 0, none⟩) 0 0), (10, .int .i64 ((k : Int) + 1))])
    (fun k => H ++ [some ⟨[.int .i64 (q : Int), .slice (some ⟨tp, 0, none⟩) ps.length cp], true, 33, 1⟩, some ⟨(dryN R k).flatMap nmE, true, 3, 1⟩, some ⟨[], true, 3, 1⟩]) (fun k => q - k) 0 (by omega) ?_ ?_
  · refine weakS_mk [some 0, some 1, some 2] rfl ?_ (by simp -dsimp -implicitDefEqProofs (disch := omega) [go_sem, -List.getD_eq_getElem?_getD, ite_yes, htp, htu, dryN])
    simp -dsimp -implicitDefEqProofs (disch := omega) [go_sem, -List.getD_eq_getElem?_getD, ite_yes, dryN]
    exact ⟨wl_net htp, .inl ⟨rfl, rfl⟩⟩
  · intro k hk
    have hdl := dryN_length R k
    have hfl : ((dryN R k).flatMap nmE).length = (dryN R k).length := by rw [nmE_length]; omega
    by_cases hlt : k < q
    · have h1 : (k : Int) + 1 ≤ (q : Int) := by omega
      have cu' := cu (k + 1) (by omega)
      have hk1 : ((k : Int) + 1).toNat = k + 1 := by omega
      have e : dryN R (k + 1) = if R.getD (k + 1) false then dryN R k else dryN R k ++ [((k + 1 : Nat) : Int)] := rfl
      cases hh : R.getD (k + 1) false
      · rw [hh] at e cu'
        simp only [Bool.false_eq_true, if_false] at e
        simp -dsimp -implicitDefEqProofs (disch := omega) [go_sem, -List.getD_eq_getElem?_getD, ite_yes, htu, h1, hk1, cu', hfl]
        refine ⟨by omega, LoopEnd.of (k + 1) (by omega) (by omega) (weakS_mk [some 0, some 4, some 2] rfl ?_ (by simp -dsimp -implicitDefEqProofs (disch := omega) [go_sem, -List.getD_eq_getElem?_getD, ite_yes, htp, htu, e]))⟩
        simp -dsimp -implicitDefEqProofs (disch := omega) [go_sem, -List.getD_eq_getElem?_getD, ite_yes]
        exact ⟨wl_net htp, .inl ⟨by rw [e, List.flatMap_append]; rfl, by rw [show List.flatMap nmE (dryN R k) ++ [Value.int IntKind.i64 (↑k + 1)] = List.flatMap nmE (dryN R (k + 1)) by rw [e, List.flatMap_append]; rfl]; exact nmE_flat _⟩, .inl ⟨rfl, rfl⟩⟩
      · rw [hh] at e cu'
        rw [if_pos rfl] at e
        simp -dsimp -implicitDefEqProofs (disch := omega) [go_sem, -List.getD_eq_getElem?_getD, ite_yes, htu, h1, hk1, cu', hfl]
        refine LoopEnd.of (k + 1) (by omega) (by omega) (weakS_mk [some 0, some 1, some 2] rfl ?_ (by simp -dsimp -implicitDefEqProofs (disch := omega) [go_sem, -List.getD_eq_getElem?_getD, ite_yes, htp, htu, e]))
        simp -dsimp -implicitDefEqProofs (disch := omega) [go_sem, -List.getD_eq_getElem?_getD, ite_yes]
        exact ⟨wl_net htp, .inl ⟨by rw [e], nmE_flat _⟩, .inl ⟨rfl, rfl⟩⟩
    · obtain rfl : k = q := by omega
      have h1 : ¬ (k : Int) + 1 ≤ (k : Int) := by omega
      simp -dsimp -implicitDefEqProofs (disch := omega) [go_sem, -List.getD_eq_getElem?_getD, ite_yes, htp, h1]
      refine ALoop.intro (ι := Nat) (fun j => j ≤ ps.length) (fun j => [(1, .pointer (some ⟨u, 0, none⟩)), (2, .bool false), (8, .slice (some ⟨H.length, 0, none⟩) (dryN R k).length 0), (9, .slice (some ⟨H.length + 1, 0, none⟩) (dryI R ps j).length 0), (33, .slice (some ⟨tp, 0, none⟩) ps.length cp), (34, .int .i64 ps.length), (35, .int .i64 j)])
        (fun j => H ++ [some ⟨(dryN R k).flatMap nmE, true, 3, 1⟩, some ⟨(dryI R ps j).flatMap nmE, true, 3, 1⟩]) (fun j => ps.length - j) 0 (by omega) ?_ ?_
      · refine weakS_mk [some 1, some 2] rfl ?_ (by simp -dsimp -implicitDefEqProofs (disch := omega) [go_sem, -List.getD_eq_getElem?_getD, ite_yes, htp, htu, dryI])
        simp -dsimp -implicitDefEqProofs (disch := omega) [go_sem, -List.getD_eq_getElem?_getD, ite_yes, dryI]
        exact ⟨.inl ⟨rfl, nmE_flat _⟩, .inl ⟨rfl, rfl⟩⟩
      intro j hj
      have hdp := dryI_length R ps j
      have hfp : ((dryI R ps j).flatMap nmE).length = (dryI R ps j).length := by rw [nmE_length]; omega
      by_cases hlj : j < ps.length
      · have cu' := cu (9 + j) (by omega)
        have hj9 : (9 + (j : Int)).toNat = 9 + j := by omega
        have e : dryI R ps (j + 1) = if R.getD (9 + j) false then dryI R ps j else dryI R ps j ++ [(ps.getD j pp0).1] := rfl
        simp -dsimp -implicitDefEqProofs (disch := omega) [go_sem, -List.getD_eq_getElem?_getD, ite_yes, hlj, cs, htp, htu]
        refine ADraw.quiet (by kernel_rfl) (by kernel_rfl) (by kernel_rfl) ?_
        simp -dsimp -implicitDefEqProofs (disch := omega) [go_sem, -List.getD_eq_getElem?_getD, ite_yes, hlj, cs, htp, htu]
        refine ACallQ.of (element_A j (by omega) _) rfl ?_
        cases hh : R.getD (9 + j) false
        · rw [hh] at e cu'
          simp only [Bool.false_eq_true, if_false] at e
          simp -dsimp -implicitDefEqProofs (disch := omega) [go_sem, -List.getD_eq_getElem?_getD, ite_yes, htp, htu, cu', hj9, hfp]
          refine ⟨by omega, LoopEnd.of (j + 1) (by omega) (by omega) (weakS_mk [some 0, some 4] rfl ?_ (by simp -dsimp -implicitDefEqProofs (disch := omega) [go_sem, -List.getD_eq_getElem?_getD, ite_yes, htp, htu, e]))⟩
          simp -dsimp -implicitDefEqProofs (disch := omega) [go_sem, -List.getD_eq_getElem?_getD, ite_yes]
          exact ⟨.inl ⟨rfl, nmE_flat _⟩, .inl ⟨by rw [e, List.flatMap_append]; rfl, by rw [show List.flatMap nmE (dryI R ps j) ++ [Value.int IntKind.i64 (ps.getD j pp0).1] = List.flatMap nmE (dryI R ps (j + 1)) by rw [e, List.flatMap_append]; rfl]; exact nmE_flat _⟩⟩
        · rw [hh] at e cu'
          rw [if_pos rfl] at e
          simp -dsimp -implicitDefEqProofs (disch := omega) [go_sem, -List.getD_eq_getElem?_getD, ite_yes, htp, htu, cu', hj9, hfp]
          refine LoopEnd.of (j + 1) (by omega) (by omega) (weakS_mk [some 0, some 1] rfl ?_ (by simp -dsimp -implicitDefEqProofs (disch := omega) [go_sem, -List.getD_eq_getElem?_getD, ite_yes, htp, htu, e]))
          simp -dsimp -implicitDefEqProofs (disch := omega) [go_sem, -List.getD_eq_getElem?_getD, ite_yes]
          exact ⟨.inl ⟨rfl, nmE_flat _⟩, .inl ⟨by rw [e], nmE_flat _⟩⟩
      · obtain rfl : j = ps.length := by omega
        simp -dsimp -implicitDefEqProofs (disch := omega) [go_sem, -List.getD_eq_getElem?_getD, ite_yes, htp]
        refine fin_list [some 0, some 1] rfl ?_ (by simp -dsimp -implicitDefEqProofs (disch := omega) [go_sem, -List.getD_eq_getElem?_getD, ite_yes])
        simp -dsimp -implicitDefEqProofs (disch := omega) [go_sem, -List.getD_eq_getElem?_getD, ite_yes]
        exact ⟨.inl ⟨rfl, nmE_flat _⟩, .inl ⟨rfl, nmE_flat _⟩⟩
end Go.Proofs.Ytaehphcaiabdmaa
