/- SeeAlarm: both sides, and the law. -/
import Derived.Test.YtffemhhfflpdjaaRules
import Derived.Test.YtffemhhfflpdjaaFind
namespace Go.Proofs.Ytffemhhfflpdjaa
open Go.Am
set_option linter.unusedVariables false
set_option linter.unusedSimpArgs false
set_option maxRecDepth 100000
set_option maxHeartbeats 1000000
theorem indexFuncAl_A (l : List Al) (p : Al → Bool) (g : Nat) (cap : Array Value) (r : Int) (hr : Found (0, 0, 0, false) p l r) (hl : l.length ≤ 1048577) (c : Nat) (H : Heap) (t : Nat) (hS : Sl alE H t l) (hc : L2 (WMP (sg H.length []) H.length) cap.toList cap.toList)
    (hp : ∀ b : Al, AFunC Try.prog g (.agg #[.int .i64 b.1, .int .i64 b.2.1, .int .i64 b.2.2.1, .bool b.2.2.2] :: cap.toList) H (.bool (p b)) H) :
    AFunC Try.prog 65 [.slice (some ⟨t, 0, none⟩) l.length c, .func (.func g) #[] cap] H (.int .i64 r) H := by
  refine AFunC.of_body Try.func65 (by kernel_rfl) rfl (by kernel_rfl) (by simp [Try.ntmps65]) ?_
  have ht := hS.lt
  have cs := fun k hk => hS.cells (s := 4) (fun _ => rfl) (0, 0, 0, false) k hk
  simp only [alE] at cs
  simp -dsimp -implicitDefEqProofs (disch := omega) [go_sem, -List.getD_eq_getElem?_getD, ite_yes]
  refine ALoop.intro (ι := Nat) (fun k => k ≤ l.length ∧ findTo (0, 0, 0, false) p l k) (fun k => [(0, .slice (some ⟨t, 0, none⟩) l.length c), (1, .func (.func g) #[] cap), (7, .int .i64 l.length), (8, .int .i64 k)]) (fun _ => H) (fun k => l.length - k) 0 ⟨by omega, fun i hi => by omega⟩ ?_ ?_
  · exact weakS_same (by simp -dsimp -implicitDefEqProofs (disch := omega) [go_sem, -List.getD_eq_getElem?_getD, ite_yes, ht]; simpa using hc)
  · rintro k ⟨hk, hf⟩
    by_cases hlt : k < l.length
    · simp -dsimp -implicitDefEqProofs (disch := omega) [go_sem, -List.getD_eq_getElem?_getD, ite_yes, hlt, cs]
      refine ACall.of (hp (l.getD k (0, 0, 0, false))) ?_
      simp -dsimp -implicitDefEqProofs (disch := omega) [go_sem, -List.getD_eq_getElem?_getD, ite_yes]
      refine AIf.of (fun h => ?_) (fun h => ?_)
      · simp -dsimp -implicitDefEqProofs (disch := omega) [go_sem, -List.getD_eq_getElem?_getD, ite_yes]
        have := found_uniq hr (.yes k hlt h hf)
        exact fin_flat0 rfl (by rw [this])
      · simp -dsimp -implicitDefEqProofs (disch := omega) [go_sem, -List.getD_eq_getElem?_getD, ite_yes]
        exact LoopEnd.of (k + 1) ⟨by omega, hf.next h⟩ (by omega) (weakS_same (by simp -dsimp -implicitDefEqProofs (disch := omega) [go_sem, -List.getD_eq_getElem?_getD, ite_yes, ht]; simpa using hc))
    · simp -dsimp -implicitDefEqProofs (disch := omega) [go_sem, -List.getD_eq_getElem?_getD, ite_yes, hlt]
      obtain rfl : k = l.length := by omega
      have := found_uniq hr (.no hf)
      exact fin_flat0 rfl (by rw [this])

def atNode (node : Int) (a : Al) : Bool := decide (a.1 = node)
theorem aIdxF_A (r : Al) (node : Int) (H : Heap) (t : Nat) (h : aCells H ⟨t, 0, none⟩ 1 = some [.int .i64 node]) : AFunC Try.prog 66 [.agg #[.int .i64 r.1, .int .i64 r.2.1, .int .i64 r.2.2.1, .bool r.2.2.2], .pointer (some ⟨t, 0, none⟩)] H (.bool (atNode node r)) H := by
  refine AFunC.of_body Try.func66 (by kernel_rfl) rfl (by kernel_rfl) (by simp [Try.ntmps66]) ?_
  have ht : t < H.length := by
    unfold aCells at h
    rw [if_pos rfl] at h
    cases hb : H.get t with
    | none => simp only [hb] at h; cases h
    | some b => exact Heap.get_lt hb
  simp -dsimp -implicitDefEqProofs (disch := omega) [go_sem, -List.getD_eq_getElem?_getD, ite_yes, h, ht]
  exact fin_flat rfl rfl
theorem alarmIndex_A (l : List Al) (node : Int) (r : Int) (hr : Found (0, 0, 0, false) (atNode node) l r) (hl : l.length ≤ 1048577) (c : Nat) (H : Heap) (t : Nat) (hS : Sl alE H t l) :
    AFunC Try.prog 44 [.slice (some ⟨t, 0, none⟩) l.length c, .int .i64 node] H (.int .i64 r) H := by
  refine AFunC.of_body Try.func44 (by kernel_rfl) rfl (by kernel_rfl) (by simp [Try.ntmps44]) ?_
  have ht := hS.lt
  simp -dsimp -implicitDefEqProofs (disch := omega) [go_sem, -List.getD_eq_getElem?_getD, ite_yes]
  refine ACall.of (indexFuncAl_A l (atNode node) 66 #[.pointer (some ⟨H.length, 0, none⟩)] r hr hl c _ t hS.app (by simp [L2, WMP, sg]) (fun b => aIdxF_A b node _ _ (by rw [aCells_at0]; rfl))) ?_
  simp -dsimp -implicitDefEqProofs (disch := omega) [go_sem, -List.getD_eq_getElem?_getD, ite_yes]
  exact fin_flat rfl rfl
def seeOk (l : List Al) (r : Int) : Bool := goodA l && decide (0 ≤ r)
/-- the list with the alarm at place i seen -/
def seeL (l : List Al) (i : Nat) : List Al := l.set i ((l.getD i (0, 0, 0, false)).1, (l.getD i (0, 0, 0, false)).2.1, (l.getD i (0, 0, 0, false)).2.2.1, true)
theorem seeL_length (l : List Al) (i : Nat) : (seeL l i).length = l.length := by simp [seeL]
theorem goodA_len {l : List Al} (h : goodA l = true) : l.length ≤ 8 := by
  have key : ∀ k, k < l.length → (k : Int) < (l.getD k (0, 0, 0, false)).1 := by
    intro k
    induction k with
    | zero =>
      intro hk
      have := (asc_at h 0 hk).1
      simp only [isAl, inB, Bool.and_eq_true, decide_eq_true_eq] at this
      omega
    | succ k ih =>
      intro hk
      have h1 := ih (by omega)
      have := (asc_at h (k + 1) hk).2 (by omega)
      rw [Nat.add_sub_cancel] at this
      have := of_decide_eq_true this
      omega
  rcases Nat.lt_or_ge 8 l.length with h8 | h8
  · have h1 := key 8 h8
    have := (asc_at h 8 h8).1
    simp only [isAl, inB, Bool.and_eq_true, decide_eq_true_eq] at this
    omega
  · exact h8
theorem iSee_bad (l : List Al) (node r : Int) (hr : Found (0, 0, 0, false) (atNode node) l r) (hl : l.length ≤ 1048577) (hg : seeOk l r = false) (c : Nat) (H : Heap) (t : Nat) (hS : Sl alE H t l) :
    AFunC Try.prog 17 [.slice (some ⟨t, 0, none⟩) l.length c, .int .i64 node] H (.tuple #[.slice none 0 0, .bool false]) H := by
  refine AFunC.of_body Try.func17 (by kernel_rfl) rfl (by kernel_rfl) (by simp [Try.ntmps17]) ?_
  have ht := hS.lt
  simp -dsimp -implicitDefEqProofs (disch := omega) [go_sem, -List.getD_eq_getElem?_getD, ite_yes]
  refine ACall.of (alarmIndex_A l node r hr hl c _ t hS) ?_
  simp -dsimp -implicitDefEqProofs (disch := omega) [go_sem, -List.getD_eq_getElem?_getD, ite_yes]
  refine ACall.of (areAlarms_A l hl c _ t hS) ?_
  cases g1 : goodA l
  · simp -dsimp -implicitDefEqProofs (disch := omega) [go_sem, -List.getD_eq_getElem?_getD, ite_yes]
    exact fin_flat0 rfl rfl
  have g2 : r < 0 := by
    simp only [seeOk, g1, Bool.true_and] at hg
    have := of_decide_eq_false hg
    omega
  simp -dsimp -implicitDefEqProofs (disch := omega) [go_sem, -List.getD_eq_getElem?_getD, ite_yes, g2]
  exact fin_flat0 rfl rfl
theorem sSee_bad (l : List Al) (node r : Int) (hr : Found (0, 0, 0, false) (atNode node) l r) (hl : l.length ≤ 1048577) (hg : seeOk l r = false) (c : Nat) (H : Heap) (t : Nat) (hS : Sl alE H t l) :
    AFunC Try.prog 15 [.slice (some ⟨t, 0, none⟩) l.length c, .int .i64 node] H (.tuple #[.slice (some ⟨H.length, 0, none⟩) 0 0, .bool false]) (H ++ [some ⟨[], true, 70, 4⟩]) := by
  refine AFunC.of_body Try.func15 (by kernel_rfl) rfl (by kernel_rfl) (by simp [Try.ntmps15]) ?_
  have ht := hS.lt
  have cs0 := fun k hk => hS.cell (s := 4) (fun _ => rfl) (0, 0, 0, false) k 0 hk (by omega)
  simp only [alE, Nat.add_zero] at cs0
  simp -dsimp -implicitDefEqProofs (disch := omega) [go_sem, -List.getD_eq_getElem?_getD, ite_yes]
  refine ACall.of (l21Alarms_A l hl c _ t hS) ?_
  cases g1 : goodA l
  · simp -dsimp -implicitDefEqProofs (disch := omega) [go_sem, -List.getD_eq_getElem?_getD, ite_yes]
    refine fin_list [some 0] rfl ?_ (by simp -dsimp -implicitDefEqProofs (disch := omega) [go_sem, -List.getD_eq_getElem?_getD, ite_yes])
    simp -dsimp -implicitDefEqProofs (disch := omega) [go_sem, -List.getD_eq_getElem?_getD, ite_yes]
    exact .inl ⟨rfl, rfl⟩
  have g2 : ¬ 0 ≤ r := by simp only [seeOk, g1, Bool.true_and] at hg; exact of_decide_eq_false hg
  simp -dsimp -implicitDefEqProofs (disch := omega) [go_sem, -List.getD_eq_getElem?_getD, ite_yes]
  refine ALoop.intro (ι := Nat) (fun k => k ≤ l.length ∧ findTo (0, 0, 0, false) (atNode node) l k) (fun k => [(0, .slice (some ⟨t, 0, none⟩) l.length c), (1, .int .i64 node), (6, .int .i64 k)]) (fun _ => H) (fun k => l.length - k) 0 ⟨by omega, fun i hi => by omega⟩ ?_ ?_
  · exact weakS_same (by simp -dsimp -implicitDefEqProofs (disch := omega) [go_sem, -List.getD_eq_getElem?_getD, ite_yes, ht])
  · rintro k ⟨hk, hf⟩
    by_cases hlt : k < l.length
    · have c0 := cs0 k hlt
      have hp : ¬ (l.getD k (0, 0, 0, false)).1 = node := fun e => by
        have := found_uniq hr (.yes k hlt (decide_eq_true e) hf)
        omega
      simp -dsimp -implicitDefEqProofs (disch := omega) [go_sem, -List.getD_eq_getElem?_getD, ite_yes, hlt, c0, hp]
      exact LoopEnd.of (k + 1) ⟨by omega, hf.next (decide_eq_false hp)⟩ (by omega) (weakS_same (by simp -dsimp -implicitDefEqProofs (disch := omega) [go_sem, -List.getD_eq_getElem?_getD, ite_yes, ht]))
    · simp -dsimp -implicitDefEqProofs (disch := omega) [go_sem, -List.getD_eq_getElem?_getD, ite_yes, hlt]
      refine fin_list [some 0] rfl ?_ (by simp -dsimp -implicitDefEqProofs (disch := omega) [go_sem, -List.getD_eq_getElem?_getD, ite_yes])
      simp -dsimp -implicitDefEqProofs (disch := omega) [go_sem, -List.getD_eq_getElem?_getD, ite_yes]
      exact .inl ⟨rfl, rfl⟩
theorem see_set (l : List Al) {i : Nat} (hi : i < l.length) : (l.flatMap alE).set (i * 4 + 3) (.bool true) = (seeL l i).flatMap alE :=
  set_cell (f := alE) (s := 4) (fun _ => rfl) _ (0, 0, 0, false) hi (j := 3) (by omega) rfl
theorem see_put (l : List Al) {i : Nat} (hi : i < l.length) : (l.flatMap alE).take (i * 4) ++ (alE ((l.getD i (0, 0, 0, false)).1, (l.getD i (0, 0, 0, false)).2.1, (l.getD i (0, 0, 0, false)).2.2.1, true) ++ (l.flatMap alE).drop (i * 4 + 4)) = (seeL l i).flatMap alE :=
  (set_flat_eq (s := 4) (fun _ => rfl) _ hi).symm
theorem iSee_good (l : List Al) (node : Int) (i : Nat) (hr : Found (0, 0, 0, false) (atNode node) l i) (hi : i < l.length) (hl : l.length ≤ 1048577) (hg : goodA l = true) (c : Nat) (H : Heap) (t : Nat) (hS : Sl alE H t l) :
    AFunC Try.prog 17 [.slice (some ⟨t, 0, none⟩) l.length c, .int .i64 node] H (.tuple #[.slice (some ⟨H.length, 0, none⟩) (seeL l i).length (seeL l i).length, .bool true]) (H ++ [some ⟨(seeL l i).flatMap alE, true, 70, 4⟩]) := by
  rw [seeL_length]
  refine AFunC.of_body Try.func17 (by kernel_rfl) rfl (by kernel_rfl) (by simp [Try.ntmps17]) ?_
  have ht := hS.lt
  have al := hS.all (s := 4) (fun _ => rfl)
  have lf := alE_length l
  have i0 : ¬ (i : Int) < 0 := by omega
  have i3 : i * 4 + 3 + 1 ≤ l.length * 4 := by omega
  have ss := see_set l hi
  simp -dsimp -implicitDefEqProofs (disch := omega) [go_sem, -List.getD_eq_getElem?_getD, ite_yes]
  refine ACall.of (alarmIndex_A l node i hr hl c _ t hS) ?_
  simp -dsimp -implicitDefEqProofs (disch := omega) [go_sem, -List.getD_eq_getElem?_getD, ite_yes]
  refine ACall.of (areAlarms_A l hl c _ t hS) ?_
  simp -dsimp -implicitDefEqProofs (disch := omega) [go_sem, -List.getD_eq_getElem?_getD, ite_yes, hg, i0, al, lf, ht, hi, i3]
  have g8 := goodA_len hg
  first
  | refine fin_list [some 1] rfl ?_ (by simp -dsimp -implicitDefEqProofs (disch := omega) [go_sem, -List.getD_eq_getElem?_getD, ite_yes])
  | refine ⟨by omega, fin_list [some 1] rfl ?_ (by simp -dsimp -implicitDefEqProofs (disch := omega) [go_sem, -List.getD_eq_getElem?_getD, ite_yes])⟩
  simp -dsimp -implicitDefEqProofs (disch := omega) [go_sem, -List.getD_eq_getElem?_getD, ite_yes]
  exact .inl ⟨ss.symm, by rw [ss]; exact alE_flat _⟩
theorem sSee_good (l : List Al) (node : Int) (i : Nat) (hr : Found (0, 0, 0, false) (atNode node) l i) (hi : i < l.length) (hl : l.length ≤ 1048577) (hg : goodA l = true) (c : Nat) (H : Heap) (t : Nat) (hS : Sl alE H t l) :
    AFunC Try.prog 15 [.slice (some ⟨t, 0, none⟩) l.length c, .int .i64 node] H (.tuple #[.slice (some ⟨H.length, 0, none⟩) (seeL l i).length (seeL l i).length, .bool true]) (H ++ [some ⟨(seeL l i).flatMap alE, true, 70, 4⟩]) := by
  rw [seeL_length]
  refine AFunC.of_body Try.func15 (by kernel_rfl) rfl (by kernel_rfl) (by simp [Try.ntmps15]) ?_
  have ht := hS.lt
  have al := hS.all (s := 4) (fun _ => rfl)
  have lf := alE_length l
  have cs0 := fun k hk => hS.cell (s := 4) (fun _ => rfl) (0, 0, 0, false) k 0 hk (by omega)
  simp only [alE, Nat.add_zero] at cs0
  have fc := flatMap_cells alE 4 (fun _ => rfl) (0, 0, 0, false) l i hi
  simp only [alE] at fc
  have ss := see_put l hi
  simp only [alE] at ss
  have i4 : i * 4 + 4 ≤ l.length * 4 := by omega
  have g8 := goodA_len hg
  simp -dsimp -implicitDefEqProofs (disch := omega) [go_sem, -List.getD_eq_getElem?_getD, ite_yes]
  refine ACall.of (l21Alarms_A l hl c _ t hS) ?_
  simp -dsimp -implicitDefEqProofs (disch := omega) [go_sem, -List.getD_eq_getElem?_getD, ite_yes, hg]
  refine ALoop.intro (ι := Nat) (fun k => k ≤ l.length ∧ findTo (0, 0, 0, false) (atNode node) l k) (fun k => [(0, .slice (some ⟨t, 0, none⟩) l.length c), (1, .int .i64 node), (6, .int .i64 k)]) (fun _ => H) (fun k => l.length - k) 0 ⟨by omega, fun i hi => by omega⟩ ?_ ?_
  · exact weakS_same (by simp -dsimp -implicitDefEqProofs (disch := omega) [go_sem, -List.getD_eq_getElem?_getD, ite_yes, ht])
  · rintro k ⟨hk, hf⟩
    by_cases hlt : k < l.length
    · have c0 := cs0 k hlt
      by_cases hp : (l.getD k (0, 0, 0, false)).1 = node
      · have e := found_uniq hr (.yes k hlt (decide_eq_true hp) hf)
        have e : i = k := by omega
        subst e
        rw [hp] at ss
        simp -dsimp -implicitDefEqProofs (disch := omega) [go_sem, -List.getD_eq_getElem?_getD, ite_yes, hlt, c0, hp, al, lf, ht, fc, i4]
        refine ⟨by omega, fin_list [some 1] rfl ?_ (by simp -dsimp -implicitDefEqProofs (disch := omega) [go_sem, -List.getD_eq_getElem?_getD, ite_yes])⟩
        simp -dsimp -implicitDefEqProofs (disch := omega) [go_sem, -List.getD_eq_getElem?_getD, ite_yes]
        exact .inl ⟨ss.symm, (congrArg (fun x => List.all x flat) ss).trans (alE_flat _)⟩
      · simp -dsimp -implicitDefEqProofs (disch := omega) [go_sem, -List.getD_eq_getElem?_getD, ite_yes, hlt, c0, hp]
        exact LoopEnd.of (k + 1) ⟨by omega, hf.next (decide_eq_false hp)⟩ (by omega) (weakS_same (by simp -dsimp -implicitDefEqProofs (disch := omega) [go_sem, -List.getD_eq_getElem?_getD, ite_yes, ht]))
    · obtain rfl : k = l.length := by omega
      have := found_uniq hr (.no hf)
      omega
theorem see_at {l : List Al} {node r : Int} (hr : Found (0, 0, 0, false) (atNode node) l r) (h : seeOk l r = true) : goodA l = true ∧ ∃ i : Nat, r = (i : Int) ∧ i < l.length := by
  simp only [seeOk, Bool.and_eq_true, decide_eq_true_eq] at h
  refine ⟨h.1, ?_⟩
  cases hr with
  | yes i h1 h2 h3 => exact ⟨i, rfl, h1⟩
  | no _ => omega
theorem see_le {l : List Al} {i : Nat} (h : l.length ≤ 1048577) : (seeL l i).length ≤ 1048577 := by rw [seeL_length]; exact h
/-- the law, for the place that is found -/
theorem lawSeeAlarm_A (l : List Al) (hl0 : l.length ≤ 9223372036854775807) (c0 : Nat) (node : Int) (r : Int) (hr : Found (0, 0, 0, false) (atNode node) l r) (H : Heap) (t0 : Nat) (hS0 : Sl alE H t0 l) :
    AFunC Try.prog 4 [.slice (some ⟨t0, 0, none⟩) l.length c0, .int .i64 node] H (.bool true) H := by
  refine AFunC.of_body Try.func4 (by kernel_rfl) rfl (by kernel_rfl) (by simp [Try.ntmps4]) ?_
  have ht0 := hS0.lt
  simp -dsimp -implicitDefEqProofs (disch := omega) [go_sem, -List.getD_eq_getElem?_getD, ite_yes, ht0]
  refine ACall.of (szAl_A l.length c0 (by omega) _ (by omega) (by omega) t0 _) ?_
  simp -dsimp -implicitDefEqProofs (disch := omega) [go_sem, -List.getD_eq_getElem?_getD, ite_yes, ht0]
  refine AIf.of (fun h => ?_) (fun h => ?_)
  · simp -dsimp -implicitDefEqProofs (disch := omega) [go_sem, -List.getD_eq_getElem?_getD, ite_yes]
    first | exact fin_flat0 rfl rfl | exact fin_flat rfl rfl
  have hlen0 : l.length ≤ 1048577 := by
    have := szAl_len (by simpa using h)
    omega
  simp -dsimp -implicitDefEqProofs (disch := omega) [go_sem, -List.getD_eq_getElem?_getD, ite_yes, ht0]
  rcases Bool.eq_false_or_eq_true (seeOk l r) with hg | hg
  · obtain ⟨hga, i, rfl, hi⟩ := see_at hr hg
    have hu := see_le (i := i) hlen0
    refine ACall.of (toAlS_A l hlen0 c0 _ t0 hS0) ?_
    simp -dsimp -implicitDefEqProofs (disch := omega) [go_sem, -List.getD_eq_getElem?_getD, ite_yes, ht0]
    refine ACall.of (sSee_good l node i hr hi hlen0 hga _ _ _ (Sl.of rfl)) ?_
    simp -dsimp -implicitDefEqProofs (disch := omega) [go_sem, -List.getD_eq_getElem?_getD, ite_yes, ht0]
    refine ACall.of (toAlS_A l hlen0 c0 _ t0 hS0.app) ?_
    simp -dsimp -implicitDefEqProofs (disch := omega) [go_sem, -List.getD_eq_getElem?_getD, ite_yes, ht0]
    refine ACall.of (iSee_good l node i hr hi hlen0 hga _ _ _ (Sl.nth 2 rfl rfl)) ?_
    simp -dsimp -implicitDefEqProofs (disch := omega) [go_sem, -List.getD_eq_getElem?_getD, ite_yes, ht0]
    refine ACall.of (eqAlS_A (seeL l i) (seeL l i) hu hu _ _ _ _ _ (Sl.nth 3 rfl rfl) (Sl.nth 1 rfl rfl)) ?_
    simp -dsimp -implicitDefEqProofs (disch := omega) [go_sem, -List.getD_eq_getElem?_getD, ite_yes, ht0]
    refine ACall.of (toAlS_A l hlen0 c0 _ t0 hS0.app) ?_
    simp -dsimp -implicitDefEqProofs (disch := omega) [go_sem, -List.getD_eq_getElem?_getD, ite_yes, ht0]
    refine ACall.of (eqAlS_A l l hlen0 hlen0 _ _ _ _ _ (Sl.nth 2 rfl rfl) (Sl.nth 4 rfl rfl)) ?_
    simp -dsimp -implicitDefEqProofs (disch := omega) [go_sem, -List.getD_eq_getElem?_getD, ite_yes, ht0]
    refine ACall.of (markAlS_A l hlen0 _ _ _ (by omega) (by omega) _ _ ((Heap.get_len_add _ _ 2).trans rfl)) ?_
    simp -dsimp -implicitDefEqProofs (disch := omega) [go_sem, -List.getD_eq_getElem?_getD, ite_yes, ht0]
    refine AIf.of (fun h => absurd (of_decide_eq_true h) (by omega)) (fun _ => ?_)
    simp -dsimp -implicitDefEqProofs (disch := omega) [go_sem, -List.getD_eq_getElem?_getD, ite_yes, ht0]
    refine ACall.of (eqAlS_A (seeL l i) (seeL l i) hu hu _ _ _ _ _ (Sl.nth 3 rfl rfl) (Sl.nth 1 rfl rfl)) ?_
    simp -dsimp -implicitDefEqProofs (disch := omega) [go_sem, -List.getD_eq_getElem?_getD, ite_yes, ht0]
    refine ACall.of (markAlS_A (seeL l i) hu _ _ _ (by omega) (by omega) _ _ ((Heap.get_len_add _ _ 3).trans rfl)) ?_
    simp -dsimp -implicitDefEqProofs (disch := omega) [go_sem, -List.getD_eq_getElem?_getD, ite_yes, ht0]
    refine ACall.of (heldAlS_A _ hu _ _ (by omega) (by omega) _ _ (Sl.nth 3 rfl rfl)) ?_
    simp -dsimp -implicitDefEqProofs (disch := omega) [go_sem, -List.getD_eq_getElem?_getD, ite_yes, ht0]
    refine AIf.of (fun h => absurd (of_decide_eq_true h) (by omega)) (fun _ => ?_)
    simp -dsimp -implicitDefEqProofs (disch := omega) [go_sem, -List.getD_eq_getElem?_getD, ite_yes, ht0]
    refine ACall.of (toAlS_A l hlen0 c0 _ t0 hS0.app) ?_
    simp -dsimp -implicitDefEqProofs (disch := omega) [go_sem, -List.getD_eq_getElem?_getD, ite_yes, ht0]
    refine ACall.of (iSee_good l node i hr hi hlen0 hga _ _ _ (Sl.nth 5 rfl rfl)) ?_
    simp -dsimp -implicitDefEqProofs (disch := omega) [go_sem, -List.getD_eq_getElem?_getD, ite_yes, ht0]
    refine ACall.of (eqAlS_A (seeL l i) (seeL l i) hu hu _ _ _ _ _ (Sl.nth 6 rfl rfl) (Sl.nth 1 rfl rfl)) ?_
    simp -dsimp -implicitDefEqProofs (disch := omega) [go_sem, -List.getD_eq_getElem?_getD, ite_yes, ht0]
    refine ACall.of (heldAlS_A _ hu _ _ (by omega) (by omega) _ _ (Sl.nth 3 rfl rfl)) ?_
    simp -dsimp -implicitDefEqProofs (disch := omega) [go_sem, -List.getD_eq_getElem?_getD, ite_yes, ht0]
    refine AIf.of (fun h => absurd (of_decide_eq_true h) (by omega)) (fun _ => ?_)
    simp -dsimp -implicitDefEqProofs (disch := omega) [go_sem, -List.getD_eq_getElem?_getD, ite_yes, ht0]
    exact fin_flat rfl rfl
  · refine ACall.of (toAlS_A l hlen0 c0 _ t0 hS0) ?_
    simp -dsimp -implicitDefEqProofs (disch := omega) [go_sem, -List.getD_eq_getElem?_getD, ite_yes, ht0]
    refine ACall.of (sSee_bad l node r hr hlen0 hg _ _ _ (Sl.of rfl)) ?_
    simp -dsimp -implicitDefEqProofs (disch := omega) [go_sem, -List.getD_eq_getElem?_getD, ite_yes, ht0]
    refine ACall.of (toAlS_A l hlen0 c0 _ t0 hS0.app) ?_
    simp -dsimp -implicitDefEqProofs (disch := omega) [go_sem, -List.getD_eq_getElem?_getD, ite_yes, ht0]
    refine ACall.of (iSee_bad l node r hr hlen0 hg _ _ _ (Sl.nth 2 rfl rfl)) ?_
    simp -dsimp -implicitDefEqProofs (disch := omega) [go_sem, -List.getD_eq_getElem?_getD, ite_yes, ht0]
    refine ACall.of (eqAlS_nil _ _ _) ?_
    simp -dsimp -implicitDefEqProofs (disch := omega) [go_sem, -List.getD_eq_getElem?_getD, ite_yes, ht0]
    refine ACall.of (toAlS_A l hlen0 c0 _ t0 hS0.app) ?_
    simp -dsimp -implicitDefEqProofs (disch := omega) [go_sem, -List.getD_eq_getElem?_getD, ite_yes, ht0]
    refine ACall.of (eqAlS_A l l hlen0 hlen0 _ _ _ _ _ (Sl.nth 2 rfl rfl) (Sl.nth 3 rfl rfl)) ?_
    simp -dsimp -implicitDefEqProofs (disch := omega) [go_sem, -List.getD_eq_getElem?_getD, ite_yes, ht0]
    refine ACall.of (markAlS_A l hlen0 _ _ _ (by omega) (by omega) _ _ ((Heap.get_len_add _ _ 2).trans rfl)) ?_
    simp -dsimp -implicitDefEqProofs (disch := omega) [go_sem, -List.getD_eq_getElem?_getD, ite_yes, ht0]
    refine AIf.of (fun h => absurd (of_decide_eq_true h) (by omega)) (fun _ => ?_)
    simp -dsimp -implicitDefEqProofs (disch := omega) [go_sem, -List.getD_eq_getElem?_getD, ite_yes, ht0]
    refine ACall.of (eqAlS_nil _ _ _) ?_
    simp -dsimp -implicitDefEqProofs (disch := omega) [go_sem, -List.getD_eq_getElem?_getD, ite_yes, ht0]
    refine ACall.of (markAlS_nil _ _) ?_
    simp -dsimp -implicitDefEqProofs (disch := omega) [go_sem, -List.getD_eq_getElem?_getD, ite_yes, ht0]
    refine ACall.of (heldAlS_nil _ _) ?_
    simp -dsimp -implicitDefEqProofs (disch := omega) [go_sem, -List.getD_eq_getElem?_getD, ite_yes, ht0]
    refine ACall.of (toAlS_A l hlen0 c0 _ t0 hS0.app) ?_
    simp -dsimp -implicitDefEqProofs (disch := omega) [go_sem, -List.getD_eq_getElem?_getD, ite_yes, ht0]
    refine ACall.of (iSee_bad l node r hr hlen0 hg _ _ _ (Sl.nth 4 rfl rfl)) ?_
    simp -dsimp -implicitDefEqProofs (disch := omega) [go_sem, -List.getD_eq_getElem?_getD, ite_yes, ht0]
    refine ACall.of (eqAlS_nil _ _ _) ?_
    simp -dsimp -implicitDefEqProofs (disch := omega) [go_sem, -List.getD_eq_getElem?_getD, ite_yes, ht0]
    refine ACall.of (heldAlS_nil _ _) ?_
    simp -dsimp -implicitDefEqProofs (disch := omega) [go_sem, -List.getD_eq_getElem?_getD, ite_yes, ht0]
    exact fin_flat rfl rfl
theorem lawSee_A (l : List Al) (hl0 : l.length ≤ 9223372036854775807) (c0 : Nat) (node : Int) (H : Heap) (t0 : Nat) (hS0 : Sl alE H t0 l) :
    AFunC Try.prog 4 [.slice (some ⟨t0, 0, none⟩) l.length c0, .int .i64 node] H (.bool true) H := by
  obtain ⟨r, hr⟩ := found_ex (0, 0, 0, false) (atNode node) l l.length 0 (by omega) (fun i hi => by omega) (by omega)
  exact lawSeeAlarm_A l hl0 c0 node r hr H t0 hS0
end Go.Proofs.Ytffemhhfflpdjaa
