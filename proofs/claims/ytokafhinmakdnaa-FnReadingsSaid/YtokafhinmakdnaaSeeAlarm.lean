/- SeeAlarm: both sides, and the law. -/
import Derived.Test.YtokafhinmakdnaaRules
import Derived.Test.YtokafhinmakdnaaFind
namespace Go.Proofs.Ytokafhinmakdnaa
open Go.Am
set_option linter.unusedVariables false
set_option linter.unusedSimpArgs false
set_option maxRecDepth 100000
set_option maxHeartbeats 1000000
theorem indexFuncAl_A (l : List Al) (p : Al → Bool) (g : Nat) (cap : Array Value) (r : Int) (hr : Found (0, 0, 0, false) p l r) (hl : l.length ≤ 1048577) (c : Nat) (H : Heap) (t : Nat) (hS : Sl alE H t l) (hc : L2 (WMP (sg H.length []) H.length) cap.toList cap.toList)
    (hp : ∀ b : Al, AFunC Try.prog g (.agg #[.int .i64 b.1, .int .i64 b.2.1, .int .i64 b.2.2.1, .bool b.2.2.2] :: cap.toList) H (.bool (p b)) H) :
    AFunC Try.prog 85 [.slice (some ⟨t, 0, none⟩) l.length c, .func (.func g) #[] cap] H (.int .i64 r) H := by
  refine AFunC.of_body Try.func85 (by kernel_rfl) rfl (by kernel_rfl) (by simp [Try.ntmps85]) ?_
  have ht := hS.lt
  have cs := fun k hk => hS.cells (s := 4) (fun _ => rfl) (0, 0, 0, false) k hk
  simp only [alE] at cs
  simp -dsimp -implicitDefEqProofs (disch := omega) [go_sem, -List.getD_eq_getElem?_getD, ite_yes]
  refine ALoop.intro (ι := Nat) (fun k => k ≤ l.length ∧ findTo (0, 0, 0, false) p l k) (fun k => [(0, .slice (some ⟨t, 0, none⟩) l.length c), (1, .func (.func g) #[] cap), (7, .int .i64 l.length), (8, .int .i64 k)]) (fun _ => H) (fun k => l.length - k) 0 ⟨by omega, fun i hi => by omega⟩ ?_ ?_
  · exact weakS_same (by simp -dsimp -implicitDefEqProofs (disch := omega) [go_sem, -List.getD_eq_getElem?_getD, ite_yes, ht]; simpa using hc)
  · rintro k ⟨hk, hf⟩
    by_cases hlt : k < l.length
    · simp -dsimp -implicitDefEqProofs (disch := omega) [go_sem, -List.getD_eq_getElem?_getD, ite_yes, hlt, cs]
      refine ACall.of (hp (l.getD k (0, 0, 0, false))) ?_
      simp -dsimp -implicitDefEqProofs (disch := omega) [go_sem, -List.getD_eq_getElem?_getD, ite_yes]
      refine AIf.of (fun h => ?_) (fun h => ?_)
      · simp -dsimp -implicitDefEqProofs (disch := omega) [go_sem, -List.getD_eq_getElem?_getD, ite_yes]
        have := found_uniq hr (.yes k hlt h hf)
        exact fin_flat0 rfl (by rw [this])
      · simp -dsimp -implicitDefEqProofs (disch := omega) [go_sem, -List.getD_eq_getElem?_getD, ite_yes]
        exact LoopEnd.of (k + 1) ⟨by omega, hf.next h⟩ (by omega) (weakS_same (by simp -dsimp -implicitDefEqProofs (disch := omega) [go_sem, -List.getD_eq_getElem?_getD, ite_yes, ht]; simpa using hc))
    · simp -dsimp -implicitDefEqProofs (disch := omega) [go_sem, -List.getD_eq_getElem?_getD, ite_yes, hlt]
      obtain rfl : k = l.length := by omega
      have := found_uniq hr (.no hf)
      exact fin_flat0 rfl (by rw [this])

def atNode (node : Int) (a : Al) : Bool := decide (a.1 = node)
theorem aIdxF_A (r : Al) (node : Int) (H : Heap) (t : Nat) (h : aCells H ⟨t, 0, none⟩ 1 = some [.int .i64 node]) : AFunC Try.prog 86 [.agg #[.int .i64 r.1, .int .i64 r.2.1, .int .i64 r.2.2.1, .bool r.2.2.2], .pointer (some ⟨t, 0, none⟩)] H (.bool (atNode node r)) H := by
  refine AFunC.of_body Try.func86 (by kernel_rfl) rfl (by kernel_rfl) (by simp [Try.ntmps86]) ?_
  have ht : t < H.length := by
    unfold aCells at h
    rw [if_pos rfl] at h
    cases hb : H.get t with
    | none => simp only [hb] at h; cases h
    | some b => exact Heap.get_lt hb
  simp -dsimp -implicitDefEqProofs (disch := omega) [go_sem, -List.getD_eq_getElem?_getD, ite_yes, h, ht]
  exact fin_flat rfl rfl
theorem alarmIndex_A (l : List Al) (node : Int) (r : Int) (hr : Found (0, 0, 0, false) (atNode node) l r) (hl : l.length ≤ 1048577) (c : Nat) (H : Heap) (t : Nat) (hS : Sl alE H t l) :
    AFunC Try.prog 77 [.slice (some ⟨t, 0, none⟩) l.length c, .int .i64 node] H (.int .i64 r) H := by
  refine AFunC.of_body Try.func77 (by kernel_rfl) rfl (by kernel_rfl) (by simp [Try.ntmps77]) ?_
  have ht := hS.lt
  simp -dsimp -implicitDefEqProofs (disch := omega) [go_sem, -List.getD_eq_getElem?_getD, ite_yes]
  refine ACall.of (indexFuncAl_A l (atNode node) 86 #[.pointer (some ⟨H.length, 0, none⟩)] r hr hl c _ t hS.app (by simp [L2, WMP, sg]) (fun b => aIdxF_A b node _ _ (by rw [aCells_at0]; rfl))) ?_
  simp -dsimp -implicitDefEqProofs (disch := omega) [go_sem, -List.getD_eq_getElem?_getD, ite_yes]
  exact fin_flat rfl rfl
def seeOk (l : List Al) (r : Int) : Bool := goodA l && decide (0 ≤ r)
/-- the list with the alarm at place i seen -/
def seeL (l : List Al) (i : Nat) : List Al := l.set i ((l.getD i (0, 0, 0, false)).1, (l.getD i (0, 0, 0, false)).2.1, (l.getD i (0, 0, 0, false)).2.2.1, true)
theorem seeL_length (l : List Al) (i : Nat) : (seeL l i).length = l.length := by simp [seeL]
theorem goodA_len {l : List Al} (h : goodA l = true) : l.length ≤ 8 := by
  have key : ∀ k, k < l.length → (k : Int) < (l.getD k (0, 0, 0, false)).1 := by
    intro k
    induction k with
    | zero =>
      intro hk
      have := (asc_at h 0 hk).1
      simp only [isAl, inB, Bool.and_eq_true, decide_eq_true_eq] at this
      omega
    | succ k ih =>
      intro hk
      have h1 := ih (by omega)
      have := (asc_at h (k + 1) hk).2 (by omega)
      rw [Nat.add_sub_cancel] at this
      have := of_decide_eq_true this
      omega
  rcases Nat.lt_or_ge 8 l.length with h8 | h8
  · have h1 := key 8 h8
    have := (asc_at h 8 h8).1
    simp only [isAl, inB, Bool.and_eq_true, decide_eq_true_eq] at this
    omega
  · exact h8
theorem see_set (l : List Al) {i : Nat} (hi : i < l.length) : (l.flatMap alE).set (i * 4 + 3) (.bool true) = (seeL l i).flatMap alE :=
  set_cell (f := alE) (s := 4) (fun _ => rfl) _ (0, 0, 0, false) hi (j := 3) (by omega) rfl
theorem see_put (l : List Al) {i : Nat} (hi : i < l.length) : (l.flatMap alE).take (i * 4) ++ (alE ((l.getD i (0, 0, 0, false)).1, (l.getD i (0, 0, 0, false)).2.1, (l.getD i (0, 0, 0, false)).2.2.1, true) ++ (l.flatMap alE).drop (i * 4 + 4)) = (seeL l i).flatMap alE :=
  (set_flat_eq (s := 4) (fun _ => rfl) _ hi).symm
theorem see_at {l : List Al} {node r : Int} (hr : Found (0, 0, 0, false) (atNode node) l r) (h : seeOk l r = true) : goodA l = true ∧ ∃ i : Nat, r = (i : Int) ∧ i < l.length := by
  simp only [seeOk, Bool.and_eq_true, decide_eq_true_eq] at h
  refine ⟨h.1, ?_⟩
  cases hr with
  | yes i h1 h2 h3 => exact ⟨i, rfl, h1⟩
  | no _ => omega
theorem see_le {l : List Al} {i : Nat} (h : l.length ≤ 1048577) : (seeL l i).length ≤ 1048577 := by rw [seeL_length]; exact h
end Go.Proofs.Ytokafhinmakdnaa
