/- What water reaches: the program's side; and that both sides say the same. -/
import Derived.Test.YtamkdgjagjpmlaaDry
namespace Go.Proofs.Ytamkdgjagjpmlaa
open Go.Am
set_option linter.unusedVariables false
set_option linter.unusedSimpArgs false
set_option maxRecDepth 100000
set_option maxHeartbeats 4000000

def atEnd (id nd : Int) (v : Vl) : Bool := decide (v.2.1 = id) && decide (v.2.2.1 = nd)
/-- whether an end of a pipe is open, as the program tells it: by the first valve there -/
def openI (l : List Vl) (p : Pp) (nd : Int) : Bool := decide (ixOf (atEnd p.1 nd) l < 0) || !(l.getD (ixOf (atEnd p.1 nd) l).toNat vl0).2.2.2
theorem ix_none {α : Type} (d : α) (p : α → Bool) (l : List α) (h : ∀ i, i < l.length → p (l.getD i d) = false) : ixOf p l = -1 := found_uniq (found_ix d p l) (.no h)
theorem ix_some {α : Type} (d : α) (p : α → Bool) (l : List α) {i : Nat} (hi : i < l.length) (h : p (l.getD i d) = true) : 0 ≤ ixOf p l := by
  rcases ix_cases d p l with ⟨_, h2⟩ | ⟨q, h2, _⟩
  · have := h2 i hi; rw [h] at this; cases this
  · omega
theorem goodV_twin {n : Int} {ps : List Pp} {l : List Vl} (h : goodV n ps l = true) {i : Nat} (hi : i < l.length) : twinV l i = false := by
  unfold goodV at h
  simp only [Bool.and_eq_true, decide_eq_true_eq] at h
  have := h.2.2 i hi
  unfold oneV at this
  simp only [Bool.and_eq_true, Bool.not_eq_true'] at this
  exact this.2.2.2
theorem goodV_net {n : Int} {ps : List Pp} {l : List Vl} (h : goodV n ps l = true) : NetAt n ps ∧ l.length ≤ 10 := by
  unfold goodV at h
  simp only [Bool.and_eq_true, decide_eq_true_eq] at h
  exact ⟨NetAt.of h.1, h.2.1⟩
theorem openI_openB {n : Int} {ps : List Pp} {l : List Vl} (h : goodV n ps l = true) (p : Pp) (nd : Int) : openI l p nd = openB l p nd := by
  unfold openI openB
  rcases ix_cases vl0 (atEnd p.1 nd) l with ⟨h1, h2⟩ | ⟨q, h1, h2, h3, h4⟩
  · have := ix_none vl0 (shutAt p.1 nd) l fun i hi => by
      have := h2 i hi
      unfold atEnd at this
      unfold shutAt
      rw [← Bool.and_assoc, this, Bool.false_and]
    rw [h1, this]; rfl
  · rw [h1, decide_eq_false (by omega), Bool.false_or, Int.toNat_natCast]
    cases hs : (l.getD q vl0).2.2.2
    · have := ix_none vl0 (shutAt p.1 nd) l fun i hi => by
        have e : shutAt p.1 nd (l.getD i vl0) = (atEnd p.1 nd (l.getD i vl0) && (l.getD i vl0).2.2.2) := by unfold shutAt atEnd; rw [Bool.and_assoc]
        rw [e]
        rcases Nat.lt_trichotomy i q with hlt | rfl | hgt
        · rw [h4 i hlt, Bool.false_and]
        · rw [hs, Bool.and_false]
        · cases ha : atEnd p.1 nd (l.getD i vl0)
          · rfl
          · have ht := goodV_twin h hi
            have : twinV l i = true := twinV_yes hgt h2 (by
              unfold atEnd at ha h3
              simp only [Bool.and_eq_true, decide_eq_true_eq] at ha h3
              unfold sameV
              rw [ha.1, ha.2, h3.1, h3.2]; simp)
            rw [this] at ht; cases ht
      rw [this]; rfl
    · have := ix_some vl0 (shutAt p.1 nd) l h2 (by
        have e : shutAt p.1 nd (l.getD q vl0) = (atEnd p.1 nd (l.getD q vl0) && (l.getD q vl0).2.2.2) := by unfold shutAt atEnd; rw [Bool.and_assoc]
        rw [e, h3, hs]; rfl)
      rw [decide_eq_true this]
/-- what depends on where pipes and nodes of valves are holds of valves that differ in what is shut alone -/
theorem reach_openI {n : Int} {ps : List Pp} {l : List Vl} (h : goodV n ps l = true) (src : Int) : reach (openI l) ps src = wetR ps l src :=
  run_congr (fun i hi k => openI_openB h _ _) 20 _
theorem aCells_roH {H : Heap} {t o n : Nat} : aCells (roH H) ⟨t, o, none⟩ n = aCells H ⟨t, o, none⟩ n := by
  rw [aCells_eq, aCells_eq, roH_get]
  cases H.get t <;> rfl
theorem valveAt1_A (v : Vl) (id nd : Int) (H : Heap) (u1 u2 : Nat) (hl1 : u1 < H.length) (hl2 : u2 < H.length) (c1 : aCells H ⟨u1, 0, none⟩ 1 = some [.int .i64 id]) (c2 : aCells H ⟨u2, 0, none⟩ 1 = some [.int .i64 nd]) :
    AFunC Try.prog 58 [.agg #[.int .i64 v.1, .int .i64 v.2.1, .int .i64 v.2.2.1, .bool v.2.2.2], .pointer (some ⟨u1, 0, none⟩), .pointer (some ⟨u2, 0, none⟩)] H (.bool (atEnd id nd v)) H := by
  refine AFunC.of_body Try.func58 (by kernel_rfl) rfl (by kernel_rfl) (by simp [Try.ntmps58]) ?_
  simp -dsimp -implicitDefEqProofs (disch := omega) [go_sem, -List.getD_eq_getElem?_getD, ite_yes, c1, c2, hl1, hl2]
  by_cases h1 : v.2.1 = id
  · simp -dsimp -implicitDefEqProofs (disch := omega) [go_sem, -List.getD_eq_getElem?_getD, ite_yes, h1, c1, c2, hl1, hl2]
    exact fin_flat rfl (by simp [atEnd, h1])
  · simp -dsimp -implicitDefEqProofs (disch := omega) [go_sem, -List.getD_eq_getElem?_getD, ite_yes, h1, c1, c2, hl1, hl2]
    exact fin_flat rfl (by simp [atEnd, h1])
theorem valveAt_A (l : List Vl) (hl : l.length ≤ 1048577) (c : Nat) (p : Pp) (nd : Int) (H : Heap) (t : Nat) (hS : Sl vlE H t l) :
    AFunC Try.prog 45 [.slice (some ⟨t, 0, none⟩) l.length c, .agg #[.int .i64 p.1, .int .i64 p.2.1, .int .i64 p.2.2.1, .int .i64 p.2.2.2], .int .i64 nd] H (.int .i64 (ixOf (atEnd p.1 nd) l)) H := by
  refine AFunC.of_body Try.func45 (by kernel_rfl) rfl (by kernel_rfl) (by simp [Try.ntmps45]) ?_
  have ht := hS.lt
  simp -dsimp -implicitDefEqProofs (disch := omega) [go_sem, -List.getD_eq_getElem?_getD, ite_yes, ht]
  have A := indexFuncVl_A l (atEnd p.1 nd) 58 #[.pointer (some ⟨H.length, 0, none⟩), .pointer (some ⟨H.length + 1, 0, none⟩)] hl c (H ++ [some ⟨[.int .i64 p.1, .int .i64 p.2.1, .int .i64 p.2.2.1, .int .i64 p.2.2.2], true, 68, 1⟩, some ⟨[.int .i64 nd], true, 3, 1⟩]) t hS.app (by simp -dsimp -implicitDefEqProofs (disch := omega) [go_sem, -List.getD_eq_getElem?_getD, ite_yes, ht])
    (fun k hk => valveAt1_A _ _ _ _ _ _ (by simp) (by simp) (by simp -dsimp -implicitDefEqProofs (disch := omega) [go_sem, -List.getD_eq_getElem?_getD, ite_yes, ht]) (by simp -dsimp -implicitDefEqProofs (disch := omega) [go_sem, -List.getD_eq_getElem?_getD, ite_yes, ht]))
  refine ACall.of A ?_
  simp -dsimp -implicitDefEqProofs (disch := omega) [go_sem, -List.getD_eq_getElem?_getD, ite_yes]
  exact fin_flat rfl rfl
theorem watered1_A (l : List Vl) (hl : l.length ≤ 1048577) (c : Nat) (p : Pp) (nd : Int) (H : Heap) (t u : Nat) (hS : Sl vlE H t l) (hu : u < H.length) (cu : aCells H ⟨u, 0, none⟩ 1 = some [.slice (some ⟨t, 0, none⟩) l.length c]) :
    AFunC Try.prog 44 [.agg #[.int .i64 p.1, .int .i64 p.2.1, .int .i64 p.2.2.1, .int .i64 p.2.2.2], .int .i64 nd, .pointer (some ⟨u, 0, none⟩)] H (.bool (openI l p nd)) H := by
  refine AFunC.of_body Try.func44 (by kernel_rfl) rfl (by kernel_rfl) (by simp [Try.ntmps44]) ?_
  have ht := hS.lt
  have c3 := fun k hk => hS.cell (s := 4) (fun _ => rfl) vl0 k 3 hk (by omega)
  simp only [vlE] at c3
  simp -dsimp -implicitDefEqProofs (disch := omega) [go_sem, -List.getD_eq_getElem?_getD, ite_yes, ht, hu, cu]
  refine ACall.of (valveAt_A l hl c p nd _ t hS.app) ?_
  have ho : openI l p nd = (decide (ixOf (atEnd p.1 nd) l < 0) || !(l.getD (ixOf (atEnd p.1 nd) l).toNat vl0).2.2.2) := rfl
  rcases ix_cases vl0 (atEnd p.1 nd) l with ⟨h1, _⟩ | ⟨q, h1, h2, _⟩
  · rw [h1] at ho ⊢
    simp -dsimp -implicitDefEqProofs (disch := omega) [go_sem, -List.getD_eq_getElem?_getD, ite_yes, ht, hu, cu]
    exact fin_flat rfl (by rw [ho]; rfl)
  · rw [h1] at ho ⊢
    rw [decide_eq_false (show ¬ (q : Int) < 0 by omega), Bool.false_or, Int.toNat_natCast] at ho
    have h3 : ¬ (q : Int) < 0 := by omega
    have c3' := c3 q h2
    simp -dsimp -implicitDefEqProofs (disch := omega) [go_sem, -List.getD_eq_getElem?_getD, ite_yes, ht, hu, cu, h3, h2, c3']
    exact fin_flat rfl (by rw [ho])
theorem watered_A (n : Int) (ps : List Pp) (cp : Nat) (l : List Vl) (hg : goodV n ps l = true) (c : Nat) (src : Int) (hsrc : 1 ≤ src ∧ src ≤ n) (H : Heap) (tp tv : Nat) (hP : Sl ppE H tp ps) (hV : Sl vlE H tv l) :
    AFunC Try.prog 27 [netV n tp ps.length cp, .slice (some ⟨tv, 0, none⟩) l.length c, .int .i64 src] H (.pointer (some ⟨H.length, 0, none⟩)) (H ++ [some ⟨(wetR ps l src).map .bool, true, 85, 1⟩]) := by
  refine AFunC.of_body Try.func27 (by kernel_rfl) rfl (by kernel_rfl) (by simp [Try.ntmps27]) ?_
  have htp := hP.lt
  have htv := hV.lt
  obtain ⟨hN, hl⟩ := goodV_net hg
  simp -dsimp -implicitDefEqProofs (disch := omega) [go_sem, -List.getD_eq_getElem?_getD, ite_yes, htp, htv]
  have A := reached_A n ps hN cp src hsrc (openI l) 44 #[.pointer (some ⟨H.length + 1, 0, none⟩)] (H ++ [some ⟨[.int .i64 n, .slice (some ⟨tp, 0, none⟩) ps.length cp], true, 34, 1⟩, some ⟨[.slice (some ⟨tv, 0, none⟩) l.length c], true, 36, 1⟩]) tp hP.app
    (fun K => Sl vlE K tv l ∧ H.length + 1 < K.length ∧ aCells K ⟨H.length + 1, 0, none⟩ 1 = some [.slice (some ⟨tv, 0, none⟩) l.length c])
    (fun L => ⟨(hV.app.app).ro, by simp [roH_length], by rw [aCells_roH]; simp -dsimp -implicitDefEqProofs (disch := omega) [go_sem, -List.getD_eq_getElem?_getD, ite_yes]⟩) (by simp -dsimp -implicitDefEqProofs (disch := omega) [go_sem, -List.getD_eq_getElem?_getD, ite_yes, htp]) (fun m hm js => by simp at hm; simp -dsimp -implicitDefEqProofs (disch := omega) [go_sem, -List.getD_eq_getElem?_getD, ite_yes, htp]; omega)
    (fun K hK p nd => watered1_A l (by omega) c p nd K tv _ hK.1 hK.2.1 hK.2.2)
  refine ACall.of A ?_
  simp -dsimp -implicitDefEqProofs (disch := omega) [go_sem, -List.getD_eq_getElem?_getD, ite_yes]
  refine fin_list [some 2] rfl ?_ (by simp -dsimp -implicitDefEqProofs (disch := omega) [go_sem, -List.getD_eq_getElem?_getD, ite_yes])
  simp -dsimp -implicitDefEqProofs (disch := omega) [go_sem, -List.getD_eq_getElem?_getD, ite_yes]
  exact .inl ⟨by rw [reach_openI hg], bl_flat _⟩
/-- the Ids of the dry pipes below k -/
def dryI (R : List Bool) (ps : List Pp) : Nat → List Int
  | 0 => []
  | k + 1 => if R.getD (9 + k) false then dryI R ps k else dryI R ps k ++ [(ps.getD k pp0).1]
theorem dryI_length (R : List Bool) (ps : List Pp) : ∀ k, (dryI R ps k).length ≤ k
  | 0 => Nat.le_refl _
  | k + 1 => by have := dryI_length R ps k; rw [dryI]; split <;> simp <;> omega
def blE (b : Bool) : List Value := [.bool b]
theorem blE_map (R : List Bool) : R.map Value.bool = R.flatMap blE := by
  induction R with
  | nil => rfl
  | cons b R ih => simp only [List.map_cons, List.flatMap_cons, ih]; rfl
end Go.Proofs.Ytamkdgjagjpmlaa
