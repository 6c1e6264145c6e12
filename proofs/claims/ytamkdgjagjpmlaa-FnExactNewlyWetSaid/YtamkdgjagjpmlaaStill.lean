/- Reopening: the reference's side; StillDry. -/
import Derived.Test.YtamkdgjagjpmlaaReopen
namespace Go.Proofs.Ytamkdgjagjpmlaa
open Go.Am
set_option linter.unusedVariables false
set_option linter.unusedSimpArgs false
set_option maxRecDepth 100000
set_option maxHeartbeats 4000000

theorem nm_cell1 (s : List Int) {q : Nat} (hq : q < s.length) : List.take 1 (List.drop q (s.flatMap nmE)) = [.int .i64 (s.getD q 0)] := by
  have := flatMap_cells nmE 1 (fun _ => rfl) 0 s q hq
  rwa [Nat.mul_one] at this
theorem ix_congr {α : Type} (d : α) {p p' : α → Bool} {l l' : List α} (hl : l.length = l'.length) (h : ∀ i, i < l.length → p (l.getD i d) = p' (l'.getD i d)) : ixOf p l = ixOf p' l' := by
  refine found_uniq (found_ix d p l) ?_
  rcases ix_cases d p' l' with ⟨h1, h2⟩ | ⟨q, h1, h2, h3, h4⟩
  · rw [h1]; exact .no fun i hi => by rw [h i hi]; exact h2 i (by omega)
  · rw [h1]; exact .yes q (by omega) (by rw [h q (by omega)]; exact h3) fun i hi => by rw [h i (by omega)]; exact h4 i hi
theorem oneV_opL (ps : List Pp) (l : List Vl) (ids : List Int) {i : Nat} (hi : i < l.length) : oneV ps (opL l ids) i = oneV ps l i := by
  have e : ∀ j, j < l.length → ((opL l ids).getD j vl0).1 = (l.getD j vl0).1 ∧ ((opL l ids).getD j vl0).2.1 = (l.getD j vl0).2.1 ∧ ((opL l ids).getD j vl0).2.2.1 = (l.getD j vl0).2.2.1 := fun j hj => by
    rw [opL_getD l ids hj]; exact ⟨rfl, rfl, rfl⟩
  have t : twinV (opL l ids) i = twinV l i := by
    unfold twinV
    rw [ix_congr vl0 (p' := sameV (l.getD i vl0)) (l' := l.take i) (by rw [List.length_take, List.length_take, opL_length]) (fun j hj => ?_)]
    rw [List.length_take, opL_length] at hj
    rw [getD_take' (by omega), getD_take' (by omega)]
    unfold sameV
    rw [(e j (by omega)).2.1, (e j (by omega)).2.2, (e i hi).2.1, (e i hi).2.2]
  unfold oneV
  rw [t, (e i hi).1, (e i hi).2.1, (e i hi).2.2]
  by_cases h0 : 0 < i
  · rw [(e (i - 1) (by omega)).1]
  · rw [decide_eq_false h0, Bool.false_and, Bool.false_and]
theorem goodV_opL {n : Int} {ps : List Pp} {l : List Vl} (h : goodV n ps l = true) (ids : List Int) : goodV n ps (opL l ids) = true := by
  unfold goodV at h ⊢
  simp only [Bool.and_eq_true, decide_eq_true_eq] at h ⊢
  rw [opL_length]
  exact ⟨h.1, h.2.1, fun i hi => by rw [oneV_opL ps l ids hi]; exact h.2.2 i hi⟩
theorem l4Turned_A (l : List Vl) (hl : l.length ≤ 1048577) (c : Nat) (k : Nat) (hk : k < l.length) (b : Bool) (H : Heap) (t : Nat) (hS : Sl vlE H t l) :
    AFunC Try.prog 51 [.slice (some ⟨t, 0, none⟩) l.length c, .int .i64 k, .bool b] H (.slice (some ⟨H.length, 0, none⟩) l.length 0) (H ++ [some ⟨(l.set k ((l.getD k vl0).1, (l.getD k vl0).2.1, (l.getD k vl0).2.2.1, b)).flatMap vlE, true, 54, 4⟩]) := by
  refine AFunC.of_body Try.func51 (by kernel_rfl) rfl (by kernel_rfl) (by simp [Try.ntmps51]) ?_
  have ht := hS.lt
  have al := hS.all (s := 4) (fun _ => rfl)
  have hml : (l.flatMap vlE).length = l.length * 4 := vlE_length l
  have hk4 : k * 4 + 4 ≤ l.length * 4 := by omega
  have cf := flatMap_cells vlE 4 (fun _ => rfl) vl0 l k hk
  simp only [vlE] at cf
  have sf := set_flat_eq (f := vlE) (s := 4) (l := l) (i := k) (fun _ => rfl) ((l.getD k vl0).1, (l.getD k vl0).2.1, (l.getD k vl0).2.2.1, b) hk
  simp -dsimp -implicitDefEqProofs (disch := omega) [go_sem, -List.getD_eq_getElem?_getD, ite_yes, ht, al, hk, hml, cf]
  refine ⟨by omega, ?_⟩
  refine fin_list [some 1] rfl ?_ (by simp -dsimp -implicitDefEqProofs (disch := omega) [go_sem, -List.getD_eq_getElem?_getD, ite_yes])
  simp -dsimp -implicitDefEqProofs (disch := omega) [go_sem, -List.getD_eq_getElem?_getD, ite_yes]
  exact .inl ⟨sf, (congrArg (fun x => List.all x flat) sf).symm.trans (vlE_flat _)⟩
theorem l18Opened_A (l : List Vl) (hl : l.length ≤ 1048577) (c : Nat) (ids : List Int) (hi : ids.length ≤ 1048577) (d o : Nat) (H : Heap) (t u : Nat) (hS : Sl vlE H t l) (hU : IdS H u o ids) :
    AFunC Try.prog 36 [.slice (some ⟨t, 0, none⟩) l.length c, .slice (some ⟨u, o, none⟩) ids.length d] H (.slice (some ⟨H.length, 0, none⟩) l.length 0) (H ++ [some ⟨(opL l ids).flatMap vlE, true, 54, 4⟩]) := by
  refine AFunC.of_body Try.func36 (by kernel_rfl) rfl (by kernel_rfl) (by simp [Try.ntmps36]) ?_
  have ht := hS.lt
  have hu := hU.lt
  have al := hS.all (s := 4) (fun _ => rfl)
  simp -dsimp -implicitDefEqProofs (disch := omega) [go_sem, -List.getD_eq_getElem?_getD, ite_yes, ht, hu, al]
  refine ⟨by omega, ?_⟩
  refine ALoop.intro (ι := Nat) (fun k => k ≤ l.length) (fun k => [(1, .slice (some ⟨u, o, none⟩) ids.length d), (5, .slice (some ⟨H.length, 0, none⟩) l.length 0), (6, .int .i64 k)])
    (fun k => H ++ [some ⟨(opTo l ids k).flatMap vlE, true, 54, 4⟩]) (fun k => l.length - k) 0 (by omega) ?_ ?_
  · refine weakS_mk [some 1] rfl ?_ (by simp -dsimp -implicitDefEqProofs (disch := omega) [go_sem, -List.getD_eq_getElem?_getD, ite_yes, ht, hu])
    simp -dsimp -implicitDefEqProofs (disch := omega) [go_sem, -List.getD_eq_getElem?_getD, ite_yes, opTo]
    exact .inl ⟨rfl, vlE_flat _⟩
  intro k hk
  by_cases hlt : k < l.length
  · have e := opTo_next l ids hlt
    have ol := opTo_length l ids k
    generalize opTo l ids k = m at *
    have hS' : Sl vlE (H ++ [some ⟨m.flatMap vlE, true, 54, 4⟩]) H.length m := Sl.of rfl
    have c0 := hS'.cell (s := 4) (fun _ => rfl) vl0 k 0 (by omega) (by omega)
    simp only [vlE, Nat.add_zero] at c0
    have hml : (m.flatMap vlE).length = l.length * 4 := by rw [vlE_length, ol]
    have hk4 : k * 4 + 1 ≤ l.length * 4 := by omega
    simp -dsimp -implicitDefEqProofs (disch := omega) [go_sem, -List.getD_eq_getElem?_getD, ite_yes, hlt, ht, hu, c0, hml]
    refine ACall.of (l1HasO_A ids (m.getD k vl0).1 hi d _ u o hU.app) ?_
    simp -dsimp -implicitDefEqProofs (disch := omega) [go_sem, -List.getD_eq_getElem?_getD, ite_yes, hlt, ht, hu, hml]
    refine AIf.of (fun h => ?_) (fun h => ?_)
    · have hv : ((m.getD k vl0).1, (m.getD k vl0).2.1, (m.getD k vl0).2.2.1, false) = opV ids (m.getD k vl0) := by simp only [opV, h, Bool.not_true, Bool.and_false]
      simp -dsimp -implicitDefEqProofs (disch := omega) [go_sem, -List.getD_eq_getElem?_getD, ite_yes, hlt, ht, hu, hml]
      refine ACall.of (ol ▸ l4Turned_A m (by omega) 0 k (by omega) false _ H.length hS') ?_
      rw [hv, ← e]
      simp -dsimp -implicitDefEqProofs (disch := omega) [go_sem, -List.getD_eq_getElem?_getD, ite_yes]
      refine LoopEnd.of (k + 1) (by omega) (by omega) (weakS_mk [some 1] rfl ?_ (by simp -dsimp -implicitDefEqProofs (disch := omega) [go_sem, -List.getD_eq_getElem?_getD, ite_yes, ht, hu]))
      simp -dsimp -implicitDefEqProofs (disch := omega) [go_sem, -List.getD_eq_getElem?_getD, ite_yes]
      exact .inl ⟨rfl, vlE_flat _⟩
    · have hv : m.getD k vl0 = opV ids (m.getD k vl0) := by simp only [opV, h, Bool.not_false, Bool.and_true]
      have hs : m.set k (opV ids (m.getD k vl0)) = m := by
        rw [← hv]
        refine List.ext_getElem (by simp) fun i h1 h2 => ?_
        rw [List.getElem_set]
        split
        · rename_i h; subst h; simp [List.getD_eq_getElem?_getD, h2]
        · rfl
      rw [hs] at e
      simp -dsimp -implicitDefEqProofs (disch := omega) [go_sem, -List.getD_eq_getElem?_getD, ite_yes]
      refine LoopEnd.of (k + 1) (by omega) (by omega) (weakS_mk [some 0] rfl ?_ (by simp -dsimp -implicitDefEqProofs (disch := omega) [go_sem, -List.getD_eq_getElem?_getD, ite_yes, ht, hu]))
      simp -dsimp -implicitDefEqProofs (disch := omega) [go_sem, -List.getD_eq_getElem?_getD, ite_yes]
      exact .inl ⟨by rw [e], vlE_flat _⟩
  · obtain rfl : k = l.length := by omega
    have ol := opTo_length l ids l.length
    simp -dsimp -implicitDefEqProofs (disch := omega) [go_sem, -List.getD_eq_getElem?_getD, ite_yes, hlt]
    refine fin_list [some 0] rfl ?_ (by simp -dsimp -implicitDefEqProofs (disch := omega) [go_sem, -List.getD_eq_getElem?_getD, ite_yes])
    simp -dsimp -implicitDefEqProofs (disch := omega) [go_sem, -List.getD_eq_getElem?_getD, ite_yes]
    exact .inl ⟨rfl, vlE_flat _⟩
/-- what is dry when some valves are opened -/
def dryO (n : Int) (ps : List Pp) (l : List Vl) (src : Int) (ids : List Int) : List Int := dryN (wetR ps (opL l ids) src) n.toNat
theorem dryO_length (n : Int) (ps : List Pp) (l : List Vl) (src : Int) (ids : List Int) : (dryO n ps l src ids).length ≤ n.toNat := dryN_length _ _
theorem l18Dry_A (n : Int) (ps : List Pp) (hN : NetAt n ps) (cp : Nat) (l : List Vl) (hl : l.length ≤ 1048577) (c : Nat) (src : Int) (hsrc : 1 ≤ src ∧ src ≤ n) (ids : List Int) (hi : ids.length ≤ 1048577) (d o : Nat) (H : Heap) (tp t u : Nat) (hP : Sl ppE H tp ps) (hS : Sl vlE H t l) (hU : IdS H u o ids) :
    AFunC Try.prog 22 [netV n tp ps.length cp, .slice (some ⟨t, 0, none⟩) l.length c, .int .i64 src, .slice (some ⟨u, o, none⟩) ids.length d] H (.slice (some ⟨H.length, 0, none⟩) (dryO n ps l src ids).length 0) (H ++ [some ⟨(dryO n ps l src ids).flatMap nmE, true, 3, 1⟩]) := by
  refine AFunC.of_body Try.func22 (by kernel_rfl) rfl (by kernel_rfl) (by simp [Try.ntmps22]) ?_
  have htp := hP.lt
  have ht := hS.lt
  have hu := hU.lt
  simp -dsimp -implicitDefEqProofs (disch := omega) [go_sem, -List.getD_eq_getElem?_getD, ite_yes, htp, ht, hu]
  refine ADraw.any H (by kernel_rfl) (by first | exact SubH.refl | exact SubH.app | exact SubH.both (by simp [subL])) ?_
  refine AAny.takes (fuel := 8) (by kernel_rfl) (by kernel_rfl) [1, 2, 4] (by kernel_rfl) (by kernel_rfl) ?_
  simp -dsimp -implicitDefEqProofs (disch := omega) [go_sem, -List.getD_eq_getElem?_getD, ite_yes, htp, ht, hu]
  refine AAny.two 7 0 3 (by kernel_rfl) (by kernel_rfl) (by kernel_rfl) ?_ ?_
  · simp -dsimp -implicitDefEqProofs (disch := omega) [go_sem, -List.getD_eq_getElem?_getD, ite_yes, htp, ht, hu]
    first | refine AAt.of (by first | exact SubH.refl | exact SubH.app | exact SubH.both (by simp [subL])) ?_ | (refine ⟨?_, AAt.of (by first | exact SubH.refl | exact SubH.app | exact SubH.both (by simp [subL])) ?_⟩; · omega)
    refine AAny.one 6 3 (by kernel_rfl) (by kernel_rfl) (by kernel_rfl) ?_
    simp -dsimp -implicitDefEqProofs (disch := omega) [go_sem, -List.getD_eq_getElem?_getD, ite_yes, htp, ht, hu]
    refine ACall.of (l18Opened_A l hl c ids hi d o _ t u hS.app hU.app) ?_
    simp -dsimp -implicitDefEqProofs (disch := omega) [go_sem, -List.getD_eq_getElem?_getD, ite_yes, htp, ht, hu]
    first | refine AAt.of (by first | exact SubH.refl | exact SubH.app | exact SubH.both (by simp [subL])) ?_ | (refine ⟨?_, AAt.of (by first | exact SubH.refl | exact SubH.app | exact SubH.both (by simp [subL])) ?_⟩; · omega)
    refine AAny.one 5 5 (by kernel_rfl) (by kernel_rfl) (by kernel_rfl) ?_
    simp -dsimp -implicitDefEqProofs (disch := omega) [go_sem, -List.getD_eq_getElem?_getD, ite_yes, htp, ht, hu]
    refine ACall.of (opL_length l ids ▸ l4Dry_A n ps hN cp (opL l ids) (by rw [opL_length]; exact hl) 0 src hsrc _ tp (H.length + 1) hP.app (Sl.of1 rfl)) ?_
    simp -dsimp -implicitDefEqProofs (disch := omega) [go_sem, -List.getD_eq_getElem?_getD, ite_yes, htp, ht, hu]
    first | refine AAt.of (by first | exact SubH.refl | exact SubH.app | exact SubH.both (by simp [subL])) ?_ | (refine ⟨?_, AAt.of (by first | exact SubH.refl | exact SubH.app | exact SubH.both (by simp [subL])) ?_⟩; · omega)
    refine AAny.takes (fuel := 0) (by kernel_rfl) (by kernel_rfl) [6, 7, 8, 9, 10] (by kernel_rfl) (by kernel_rfl) ?_
    simp -dsimp -implicitDefEqProofs (disch := omega) [go_sem, -List.getD_eq_getElem?_getD, ite_yes, htp, ht, hu]
    refine AAny.done (by kernel_rfl) ?_
    simp -dsimp -implicitDefEqProofs (disch := omega) [go_sem, -List.getD_eq_getElem?_getD, ite_yes, htp, ht, hu]
    refine fin_list [some 2] rfl ?_ (by simp -dsimp -implicitDefEqProofs (disch := omega) [go_sem, -List.getD_eq_getElem?_getD, ite_yes, dryO])
    simp -dsimp -implicitDefEqProofs (disch := omega) [go_sem, -List.getD_eq_getElem?_getD, ite_yes]
    exact .inl ⟨rfl, nmE_flat _⟩
  · simp -dsimp -implicitDefEqProofs (disch := omega) [go_sem, -List.getD_eq_getElem?_getD, ite_yes, htp, ht, hu]
    refine ACall.of (l18Opened_A l hl c ids hi d o _ t u hS.app hU.app) ?_
    simp -dsimp -implicitDefEqProofs (disch := omega) [go_sem, -List.getD_eq_getElem?_getD, ite_yes, htp, ht, hu]
    first | refine AAt.of (by first | exact SubH.refl | exact SubH.app | exact SubH.both (by simp [subL])) ?_ | (refine ⟨?_, AAt.of (by first | exact SubH.refl | exact SubH.app | exact SubH.both (by simp [subL])) ?_⟩; · omega)
    refine AAny.one 6 0 (by kernel_rfl) (by kernel_rfl) (by kernel_rfl) ?_
    simp -dsimp -implicitDefEqProofs (disch := omega) [go_sem, -List.getD_eq_getElem?_getD, ite_yes, htp, ht, hu]
    first | refine AAt.of (by first | exact SubH.refl | exact SubH.app | exact SubH.both (by simp [subL])) ?_ | (refine ⟨?_, AAt.of (by first | exact SubH.refl | exact SubH.app | exact SubH.both (by simp [subL])) ?_⟩; · omega)
    refine AAny.one 5 5 (by kernel_rfl) (by kernel_rfl) (by kernel_rfl) ?_
    simp -dsimp -implicitDefEqProofs (disch := omega) [go_sem, -List.getD_eq_getElem?_getD, ite_yes, htp, ht, hu]
    refine ACall.of (opL_length l ids ▸ l4Dry_A n ps hN cp (opL l ids) (by rw [opL_length]; exact hl) 0 src hsrc _ tp (H.length + 1) hP.app (Sl.of1 rfl)) ?_
    simp -dsimp -implicitDefEqProofs (disch := omega) [go_sem, -List.getD_eq_getElem?_getD, ite_yes, htp, ht, hu]
    first | refine AAt.of (by first | exact SubH.refl | exact SubH.app | exact SubH.both (by simp [subL])) ?_ | (refine ⟨?_, AAt.of (by first | exact SubH.refl | exact SubH.app | exact SubH.both (by simp [subL])) ?_⟩; · omega)
    refine AAny.takes (fuel := 0) (by kernel_rfl) (by kernel_rfl) [6, 7, 8, 9, 10] (by kernel_rfl) (by kernel_rfl) ?_
    simp -dsimp -implicitDefEqProofs (disch := omega) [go_sem, -List.getD_eq_getElem?_getD, ite_yes, htp, ht, hu]
    refine AAny.done (by kernel_rfl) ?_
    simp -dsimp -implicitDefEqProofs (disch := omega) [go_sem, -List.getD_eq_getElem?_getD, ite_yes, htp, ht, hu]
    refine fin_list [some 2] rfl ?_ (by simp -dsimp -implicitDefEqProofs (disch := omega) [go_sem, -List.getD_eq_getElem?_getD, ite_yes, dryO])
    simp -dsimp -implicitDefEqProofs (disch := omega) [go_sem, -List.getD_eq_getElem?_getD, ite_yes]
    exact .inl ⟨rfl, nmE_flat _⟩
/-- what is asked of a network, valves and a source -/
def askR (n : Int) (ps : List Pp) (l : List Vl) (src : Int) : Bool := goodV n ps l && (inB src 1 n && decide ((shutL l).length ≤ 6))
theorem askR_at {n : Int} {ps : List Pp} {l : List Vl} {src : Int} (h : askR n ps l src = true) : goodV n ps l = true ∧ NetAt n ps ∧ l.length ≤ 10 ∧ (1 ≤ src ∧ src ≤ n) ∧ (shutL l).length ≤ 6 := by
  unfold askR at h
  simp only [Bool.and_eq_true, decide_eq_true_eq, inB] at h
  exact ⟨h.1, (goodV_net h.1).1, (goodV_net h.1).2, h.2.1, h.2.2⟩
theorem canReopen_A (n : Int) (ps : List Pp) (hps : ps.length ≤ 1048577) (cp : Nat) (l : List Vl) (hl : l.length ≤ 1048577) (c : Nat) (src : Int) (H : Heap) (tp t : Nat) (hP : Sl ppE H tp ps) (hS : Sl vlE H t l) :
    AFunC Try.prog 38 [netV n tp ps.length cp, .slice (some ⟨t, 0, none⟩) l.length c, .int .i64 src] H (.bool (askR n ps l src)) H := by
  refine AFunC.of_body Try.func38 (by kernel_rfl) rfl (by kernel_rfl) (by simp [Try.ntmps38]) ?_
  have htp := hP.lt
  have ht := hS.lt
  have hsl := shutL_length l
  simp -dsimp -implicitDefEqProofs (disch := omega) [go_sem, -List.getD_eq_getElem?_getD, ite_yes, htp, ht]
  refine ACall.of (iValidValves_A n ps hps cp l hl c _ tp t hP.app hS.app) ?_
  cases hg : goodV n ps l
  · simp -dsimp -implicitDefEqProofs (disch := omega) [go_sem, -List.getD_eq_getElem?_getD, ite_yes]
    exact fin_flat rfl (by rw [askR, hg, Bool.false_and])
  simp -dsimp -implicitDefEqProofs (disch := omega) [go_sem, -List.getD_eq_getElem?_getD, ite_yes, htp, ht]
  refine ACall.of (nHas_A n tp ps.length cp src _) ?_
  cases hi : inB src 1 n
  · simp -dsimp -implicitDefEqProofs (disch := omega) [go_sem, -List.getD_eq_getElem?_getD, ite_yes]
    exact fin_flat rfl (by rw [askR, hg, hi, Bool.true_and, Bool.false_and])
  simp -dsimp -implicitDefEqProofs (disch := omega) [go_sem, -List.getD_eq_getElem?_getD, ite_yes, htp, ht]
  refine ACall.of (shutIds_A l hl c _ t hS.app) ?_
  simp -dsimp -implicitDefEqProofs (disch := omega) [go_sem, -List.getD_eq_getElem?_getD, ite_yes]
  exact fin_flat rfl (by rw [askR, hg, hi, Bool.true_and, Bool.true_and]; congr 1; rw [decide_eq_decide]; omega)
theorem l18Asked_A (n : Int) (ps : List Pp) (hps : ps.length ≤ 1048577) (cp : Nat) (l : List Vl) (hl : l.length ≤ 1048577) (c : Nat) (src : Int) (H : Heap) (tp t : Nat) (hP : Sl ppE H tp ps) (hS : Sl vlE H t l) :
    AFunC Try.prog 33 [netV n tp ps.length cp, .slice (some ⟨t, 0, none⟩) l.length c, .int .i64 src] H (.bool (askR n ps l src)) H := by
  refine AFunC.of_body Try.func33 (by kernel_rfl) rfl (by kernel_rfl) (by simp [Try.ntmps33]) ?_
  have htp := hP.lt
  have ht := hS.lt
  have hsl := shutL_length l
  simp -dsimp -implicitDefEqProofs (disch := omega) [go_sem, -List.getD_eq_getElem?_getD, ite_yes, htp, ht]
  refine ACall.of (l4Good_A n ps hps cp l hl c _ tp t hP.app hS.app) ?_
  cases hg : goodV n ps l
  · simp -dsimp -implicitDefEqProofs (disch := omega) [go_sem, -List.getD_eq_getElem?_getD, ite_yes]
    exact fin_flat rfl (by rw [askR, hg, Bool.false_and])
  have hn : goodN n ps = true := by
    unfold goodV at hg
    simp only [Bool.and_eq_true] at hg
    exact hg.1
  simp -dsimp -implicitDefEqProofs (disch := omega) [go_sem, -List.getD_eq_getElem?_getD, ite_yes, htp, ht]
  refine ACall.of (l2Node_A n ps hps cp src _ tp hP.app) ?_
  cases hi : inB src 1 n
  · simp -dsimp -implicitDefEqProofs (disch := omega) [go_sem, -List.getD_eq_getElem?_getD, ite_yes]
    exact fin_flat rfl (by rw [askR, hg, hi, Bool.true_and, Bool.false_and])
  simp -dsimp -implicitDefEqProofs (disch := omega) [go_sem, -List.getD_eq_getElem?_getD, ite_yes, hn, htp, ht]
  refine ACall.of (l18Shut_A l hl c _ t hS.app) ?_
  simp -dsimp -implicitDefEqProofs (disch := omega) [go_sem, -List.getD_eq_getElem?_getD, ite_yes]
  exact fin_flat rfl (by rw [askR, hg, hi, Bool.true_and, Bool.true_and]; congr 1; rw [decide_eq_decide]; omega)
end Go.Proofs.Ytamkdgjagjpmlaa
