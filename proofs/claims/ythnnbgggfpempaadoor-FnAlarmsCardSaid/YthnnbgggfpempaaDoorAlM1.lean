/- Find, SeeAlarm, TakeP, InsC, InsA, TakeD, TakeI, Take, TakeS, TakeRd, in one text. -/
import Derived.Test.YthnnbgggfpempaaDoorAm11
import Derived.Test.YthnnbgggfpempaaDoorRules
import Derived.Test.YthnnbgggfpempaaDoorAm15
import Derived.Test.YthnnbgggfpempaaDoorFacts
import Derived.WalkKit
import Derived.Shelf.RegionOpenPlain
import Derived.WalkSpells
import Derived.Lib.Walk
import Derived.Lib.SliceRun
import Derived.Lib.AppendZeros
import Derived.Lib.AppendZerosOnto
import Derived.Lib.Overlaps
import Derived.Laws.Externs
import Derived.Laws.CopyRow
import Derived.Laws.NewBlocks
/- The first place where a predicate holds. -/
namespace Go.Proofs.YthnnbgggfpempaaDoor
/-- the first place where p holds, or -1 -/
def findTo {α : Type} (d : α) (p : α → Bool) (l : List α) (k : Nat) : Prop := ∀ i, i < k → p (l.getD i d) = false
inductive Found {α : Type} (d : α) (p : α → Bool) (l : List α) : Int → Prop
  | yes (i : Nat) (h1 : i < l.length) (h2 : p (l.getD i d) = true) (h3 : findTo d p l i) : Found d p l i
  | no (h : findTo d p l l.length) : Found d p l (-1)
theorem found_ex {α : Type} (d : α) (p : α → Bool) (l : List α) : ∀ (m k : Nat), l.length - k = m → findTo d p l k → k ≤ l.length → ∃ i, Found d p l i
  | 0, k, h1, h2, h3 => ⟨-1, .no (by rwa [show l.length = k by omega])⟩
  | m + 1, k, h1, h2, h3 => by
    cases hp : p (l.getD k d)
    · refine found_ex d p l m (k + 1) (by omega) (fun i hi => ?_) (by omega)
      rcases Nat.lt_or_ge i k with h | h
      · exact h2 i h
      · rw [show i = k by omega]; exact hp
    · exact ⟨k, .yes k (by omega) hp h2⟩
theorem found_uniq {α : Type} {d : α} {p : α → Bool} {l : List α} {i j : Int} (h : Found d p l i) (k : Found d p l j) : i = j := by
  cases h with
  | yes i h1 h2 h3 => cases k with
    | yes j k1 k2 k3 =>
      rcases Nat.lt_trichotomy i j with h | h | h
      · have := k3 i h; rw [h2] at this; cases this
      · rw [h]
      · have := h3 j h; rw [k2] at this; cases this
    | no k => have := k i h1; rw [h2] at this; cases this
  | no h => cases k with
    | yes j k1 k2 k3 => have := h j k1; rw [k2] at this; cases this
    | no k => rfl
theorem findTo.next {α : Type} {d : α} {p : α → Bool} {l : List α} {k : Nat} (h : findTo d p l k) (hp : p (l.getD k d) = false) : findTo d p l (k + 1) := fun i hi => by
  rcases Nat.lt_or_ge i k with h' | h'
  · exact h i h'
  · rw [show i = k by omega]; exact hp
end Go.Proofs.YthnnbgggfpempaaDoor
/- SeeAlarm: both sides, and the law. -/
namespace Go.Proofs.YthnnbgggfpempaaDoor
open Go.Am
set_option linter.unusedVariables false
set_option linter.unusedSimpArgs false
set_option maxRecDepth 100000
set_option maxHeartbeats 1000000
theorem indexFuncAl_A (l : List Al) (p : Al → Bool) (g : Nat) (cap : Array Value) (r : Int) (hr : Found (0, 0, 0, false) p l r) (hl : l.length ≤ 1048577) (c : Nat) (H : Heap) (t : Nat) (hS : Sl alE H t l) (hc : L2 (WMP (sg H.length []) H.length) cap.toList cap.toList)
    (hp : ∀ b : Al, AFunC Tryd.prog g (.agg #[.int .i64 b.1, .int .i64 b.2.1, .int .i64 b.2.2.1, .bool b.2.2.2] :: cap.toList) H (.bool (p b)) H) :
    AFunC Tryd.prog 141 [.slice (some ⟨t, 0, none⟩) l.length c, .func (.func g) #[] cap] H (.int .i64 r) H := by
  refine AFunC.of_body Tryd.func141 (by kernel_rfl) rfl (by kernel_rfl) (by simp [Tryd.ntmps141]) ?_
  have ht := hS.lt
  have cs := fun k hk => hS.cells (s := 4) (fun _ => rfl) (0, 0, 0, false) k hk
  simp only [alE] at cs
  simp -dsimp -implicitDefEqProofs (disch := omega) [go_sem, -List.getD_eq_getElem?_getD, ite_yes]
  refine ALoop.intro (ι := Nat) (fun k => k ≤ l.length ∧ findTo (0, 0, 0, false) p l k) (fun k => [(0, .slice (some ⟨t, 0, none⟩) l.length c), (1, .func (.func g) #[] cap), (7, .int .i64 l.length), (8, .int .i64 k)]) (fun _ => H) (fun k => l.length - k) 0 ⟨by omega, fun i hi => by omega⟩ ?_ ?_
  · exact weakS_same (by simp -dsimp -implicitDefEqProofs (disch := omega) [go_sem, -List.getD_eq_getElem?_getD, ite_yes, ht]; simpa using hc)
  · rintro k ⟨hk, hf⟩
    by_cases hlt : k < l.length
    · simp -dsimp -implicitDefEqProofs (disch := omega) [go_sem, -List.getD_eq_getElem?_getD, ite_yes, hlt, cs]
      refine ACall.of (hp (l.getD k (0, 0, 0, false))) ?_
      simp -dsimp -implicitDefEqProofs (disch := omega) [go_sem, -List.getD_eq_getElem?_getD, ite_yes]
      refine AIf.of (fun h => ?_) (fun h => ?_)
      · simp -dsimp -implicitDefEqProofs (disch := omega) [go_sem, -List.getD_eq_getElem?_getD, ite_yes]
        have := found_uniq hr (.yes k hlt h hf)
        exact fin_flat0 rfl (by rw [this])
      · simp -dsimp -implicitDefEqProofs (disch := omega) [go_sem, -List.getD_eq_getElem?_getD, ite_yes]
        exact LoopEnd.of (k + 1) ⟨by omega, hf.next h⟩ (by omega) (weakS_same (by simp -dsimp -implicitDefEqProofs (disch := omega) [go_sem, -List.getD_eq_getElem?_getD, ite_yes, ht]; simpa using hc))
    · simp -dsimp -implicitDefEqProofs (disch := omega) [go_sem, -List.getD_eq_getElem?_getD, ite_yes, hlt]
      obtain rfl : k = l.length := by omega
      have := found_uniq hr (.no hf)
      exact fin_flat0 rfl (by rw [this])

def atNode (node : Int) (a : Al) : Bool := decide (a.1 = node)
theorem aIdxF_A (r : Al) (node : Int) (H : Heap) (t : Nat) (h : aCells H ⟨t, 0, none⟩ 1 = some [.int .i64 node]) : AFunC Tryd.prog 142 [.agg #[.int .i64 r.1, .int .i64 r.2.1, .int .i64 r.2.2.1, .bool r.2.2.2], .pointer (some ⟨t, 0, none⟩)] H (.bool (atNode node r)) H := by
  refine AFunC.of_body Tryd.func142 (by kernel_rfl) rfl (by kernel_rfl) (by simp [Tryd.ntmps142]) ?_
  have ht : t < H.length := by
    unfold aCells at h
    rw [if_pos rfl] at h
    cases hb : H.get t with
    | none => simp only [hb] at h; cases h
    | some b => exact Heap.get_lt hb
  simp -dsimp -implicitDefEqProofs (disch := omega) [go_sem, -List.getD_eq_getElem?_getD, ite_yes, h, ht]
  exact fin_flat rfl rfl
theorem alarmIndex_A (l : List Al) (node : Int) (r : Int) (hr : Found (0, 0, 0, false) (atNode node) l r) (hl : l.length ≤ 1048577) (c : Nat) (H : Heap) (t : Nat) (hS : Sl alE H t l) :
    AFunC Tryd.prog 110 [.slice (some ⟨t, 0, none⟩) l.length c, .int .i64 node] H (.int .i64 r) H := by
  refine AFunC.of_body Tryd.func110 (by kernel_rfl) rfl (by kernel_rfl) (by simp [Tryd.ntmps110]) ?_
  have ht := hS.lt
  simp -dsimp -implicitDefEqProofs (disch := omega) [go_sem, -List.getD_eq_getElem?_getD, ite_yes]
  refine ACall.of (indexFuncAl_A l (atNode node) 142 #[.pointer (some ⟨H.length, 0, none⟩)] r hr hl c _ t hS.app (by simp [L2, WMP, sg]) (fun b => aIdxF_A b node _ _ (by rw [aCells_at0]; rfl))) ?_
  simp -dsimp -implicitDefEqProofs (disch := omega) [go_sem, -List.getD_eq_getElem?_getD, ite_yes]
  exact fin_flat rfl rfl
def seeOk (l : List Al) (r : Int) : Bool := goodA l && decide (0 ≤ r)
/-- the list with the alarm at place i seen -/
def seeL (l : List Al) (i : Nat) : List Al := l.set i ((l.getD i (0, 0, 0, false)).1, (l.getD i (0, 0, 0, false)).2.1, (l.getD i (0, 0, 0, false)).2.2.1, true)
theorem seeL_length (l : List Al) (i : Nat) : (seeL l i).length = l.length := by simp [seeL]
theorem goodA_len {l : List Al} (h : goodA l = true) : l.length ≤ 8 := by
  have key : ∀ k, k < l.length → (k : Int) < (l.getD k (0, 0, 0, false)).1 := by
    intro k
    induction k with
    | zero =>
      intro hk
      have := (asc_at h 0 hk).1
      simp only [isAl, inB, Bool.and_eq_true, decide_eq_true_eq] at this
      omega
    | succ k ih =>
      intro hk
      have h1 := ih (by omega)
      have := (asc_at h (k + 1) hk).2 (by omega)
      rw [Nat.add_sub_cancel] at this
      have := of_decide_eq_true this
      omega
  rcases Nat.lt_or_ge 8 l.length with h8 | h8
  · have h1 := key 8 h8
    have := (asc_at h 8 h8).1
    simp only [isAl, inB, Bool.and_eq_true, decide_eq_true_eq] at this
    omega
  · exact h8
theorem iSee_bad (l : List Al) (node r : Int) (hr : Found (0, 0, 0, false) (atNode node) l r) (hl : l.length ≤ 1048577) (hg : seeOk l r = false) (c : Nat) (H : Heap) (t : Nat) (hS : Sl alE H t l) :
    AFunC Tryd.prog 48 [.slice (some ⟨t, 0, none⟩) l.length c, .int .i64 node] H (.tuple #[.slice none 0 0, .bool false]) H := by
  refine AFunC.of_body Tryd.func48 (by kernel_rfl) rfl (by kernel_rfl) (by simp [Tryd.ntmps48]) ?_
  have ht := hS.lt
  simp -dsimp -implicitDefEqProofs (disch := omega) [go_sem, -List.getD_eq_getElem?_getD, ite_yes]
  refine ACall.of (alarmIndex_A l node r hr hl c _ t hS) ?_
  simp -dsimp -implicitDefEqProofs (disch := omega) [go_sem, -List.getD_eq_getElem?_getD, ite_yes]
  refine ACall.of (areAlarms_A l hl c _ t hS) ?_
  cases g1 : goodA l
  · simp -dsimp -implicitDefEqProofs (disch := omega) [go_sem, -List.getD_eq_getElem?_getD, ite_yes]
    exact fin_flat0 rfl rfl
  have g2 : r < 0 := by
    simp only [seeOk, g1, Bool.true_and] at hg
    have := of_decide_eq_false hg
    omega
  simp -dsimp -implicitDefEqProofs (disch := omega) [go_sem, -List.getD_eq_getElem?_getD, ite_yes, g2]
  exact fin_flat0 rfl rfl
theorem sSee_bad (l : List Al) (node r : Int) (hr : Found (0, 0, 0, false) (atNode node) l r) (hl : l.length ≤ 1048577) (hg : seeOk l r = false) (c : Nat) (H : Heap) (t : Nat) (hS : Sl alE H t l) :
    AFunC Tryd.prog 49 [.slice (some ⟨t, 0, none⟩) l.length c, .int .i64 node] H (.tuple #[.slice (some ⟨H.length, 0, none⟩) 0 0, .bool false]) (H ++ [some ⟨[], true, 67, 4⟩]) := by
  refine AFunC.of_body Tryd.func49 (by kernel_rfl) rfl (by kernel_rfl) (by simp [Tryd.ntmps49]) ?_
  have ht := hS.lt
  have cs0 := fun k hk => hS.cell (s := 4) (fun _ => rfl) (0, 0, 0, false) k 0 hk (by omega)
  simp only [alE, Nat.add_zero] at cs0
  simp -dsimp -implicitDefEqProofs (disch := omega) [go_sem, -List.getD_eq_getElem?_getD, ite_yes]
  refine ACall.of (l21Alarms_A l hl c _ t hS) ?_
  cases g1 : goodA l
  · simp -dsimp -implicitDefEqProofs (disch := omega) [go_sem, -List.getD_eq_getElem?_getD, ite_yes]
    refine fin_list [some 0] rfl ?_ (by simp -dsimp -implicitDefEqProofs (disch := omega) [go_sem, -List.getD_eq_getElem?_getD, ite_yes])
    simp -dsimp -implicitDefEqProofs (disch := omega) [go_sem, -List.getD_eq_getElem?_getD, ite_yes]
    exact .inl ⟨rfl, rfl⟩
  have g2 : ¬ 0 ≤ r := by simp only [seeOk, g1, Bool.true_and] at hg; exact of_decide_eq_false hg
  simp -dsimp -implicitDefEqProofs (disch := omega) [go_sem, -List.getD_eq_getElem?_getD, ite_yes]
  refine ALoop.intro (ι := Nat) (fun k => k ≤ l.length ∧ findTo (0, 0, 0, false) (atNode node) l k) (fun k => [(0, .slice (some ⟨t, 0, none⟩) l.length c), (1, .int .i64 node), (6, .int .i64 k)]) (fun _ => H) (fun k => l.length - k) 0 ⟨by omega, fun i hi => by omega⟩ ?_ ?_
  · exact weakS_same (by simp -dsimp -implicitDefEqProofs (disch := omega) [go_sem, -List.getD_eq_getElem?_getD, ite_yes, ht])
  · rintro k ⟨hk, hf⟩
    by_cases hlt : k < l.length
    · have c0 := cs0 k hlt
      have hp : ¬ (l.getD k (0, 0, 0, false)).1 = node := fun e => by
        have := found_uniq hr (.yes k hlt (decide_eq_true e) hf)
        omega
      simp -dsimp -implicitDefEqProofs (disch := omega) [go_sem, -List.getD_eq_getElem?_getD, ite_yes, hlt, c0, hp]
      exact LoopEnd.of (k + 1) ⟨by omega, hf.next (decide_eq_false hp)⟩ (by omega) (weakS_same (by simp -dsimp -implicitDefEqProofs (disch := omega) [go_sem, -List.getD_eq_getElem?_getD, ite_yes, ht]))
    · simp -dsimp -implicitDefEqProofs (disch := omega) [go_sem, -List.getD_eq_getElem?_getD, ite_yes, hlt]
      refine fin_list [some 0] rfl ?_ (by simp -dsimp -implicitDefEqProofs (disch := omega) [go_sem, -List.getD_eq_getElem?_getD, ite_yes])
      simp -dsimp -implicitDefEqProofs (disch := omega) [go_sem, -List.getD_eq_getElem?_getD, ite_yes]
      exact .inl ⟨rfl, rfl⟩
theorem see_set (l : List Al) {i : Nat} (hi : i < l.length) : (l.flatMap alE).set (i * 4 + 3) (.bool true) = (seeL l i).flatMap alE :=
  set_cell (f := alE) (s := 4) (fun _ => rfl) _ (0, 0, 0, false) hi (j := 3) (by omega) rfl
theorem see_put (l : List Al) {i : Nat} (hi : i < l.length) : (l.flatMap alE).take (i * 4) ++ (alE ((l.getD i (0, 0, 0, false)).1, (l.getD i (0, 0, 0, false)).2.1, (l.getD i (0, 0, 0, false)).2.2.1, true) ++ (l.flatMap alE).drop (i * 4 + 4)) = (seeL l i).flatMap alE :=
  (set_flat_eq (s := 4) (fun _ => rfl) _ hi).symm
theorem iSee_good (l : List Al) (node : Int) (i : Nat) (hr : Found (0, 0, 0, false) (atNode node) l i) (hi : i < l.length) (hl : l.length ≤ 1048577) (hg : goodA l = true) (c : Nat) (H : Heap) (t : Nat) (hS : Sl alE H t l) :
    AFunC Tryd.prog 48 [.slice (some ⟨t, 0, none⟩) l.length c, .int .i64 node] H (.tuple #[.slice (some ⟨H.length, 0, none⟩) (seeL l i).length (seeL l i).length, .bool true]) (H ++ [some ⟨(seeL l i).flatMap alE, true, 67, 4⟩]) := by
  rw [seeL_length]
  refine AFunC.of_body Tryd.func48 (by kernel_rfl) rfl (by kernel_rfl) (by simp [Tryd.ntmps48]) ?_
  have ht := hS.lt
  have al := hS.all (s := 4) (fun _ => rfl)
  have lf := alE_length l
  have i0 : ¬ (i : Int) < 0 := by omega
  have i3 : i * 4 + 3 + 1 ≤ l.length * 4 := by omega
  have ss := see_set l hi
  simp -dsimp -implicitDefEqProofs (disch := omega) [go_sem, -List.getD_eq_getElem?_getD, ite_yes]
  refine ACall.of (alarmIndex_A l node i hr hl c _ t hS) ?_
  simp -dsimp -implicitDefEqProofs (disch := omega) [go_sem, -List.getD_eq_getElem?_getD, ite_yes]
  refine ACall.of (areAlarms_A l hl c _ t hS) ?_
  simp -dsimp -implicitDefEqProofs (disch := omega) [go_sem, -List.getD_eq_getElem?_getD, ite_yes, hg, i0, al, lf, ht, hi, i3]
  have g8 := goodA_len hg
  first
  | refine fin_list [some 1] rfl ?_ (by simp -dsimp -implicitDefEqProofs (disch := omega) [go_sem, -List.getD_eq_getElem?_getD, ite_yes])
  | refine ⟨by omega, fin_list [some 1] rfl ?_ (by simp -dsimp -implicitDefEqProofs (disch := omega) [go_sem, -List.getD_eq_getElem?_getD, ite_yes])⟩
  simp -dsimp -implicitDefEqProofs (disch := omega) [go_sem, -List.getD_eq_getElem?_getD, ite_yes]
  exact .inl ⟨ss.symm, by rw [ss]; exact alE_flat _⟩
theorem sSee_good (l : List Al) (node : Int) (i : Nat) (hr : Found (0, 0, 0, false) (atNode node) l i) (hi : i < l.length) (hl : l.length ≤ 1048577) (hg : goodA l = true) (c : Nat) (H : Heap) (t : Nat) (hS : Sl alE H t l) :
    AFunC Tryd.prog 49 [.slice (some ⟨t, 0, none⟩) l.length c, .int .i64 node] H (.tuple #[.slice (some ⟨H.length, 0, none⟩) (seeL l i).length (seeL l i).length, .bool true]) (H ++ [some ⟨(seeL l i).flatMap alE, true, 67, 4⟩]) := by
  rw [seeL_length]
  refine AFunC.of_body Tryd.func49 (by kernel_rfl) rfl (by kernel_rfl) (by simp [Tryd.ntmps49]) ?_
  have ht := hS.lt
  have al := hS.all (s := 4) (fun _ => rfl)
  have lf := alE_length l
  have cs0 := fun k hk => hS.cell (s := 4) (fun _ => rfl) (0, 0, 0, false) k 0 hk (by omega)
  simp only [alE, Nat.add_zero] at cs0
  have fc := flatMap_cells alE 4 (fun _ => rfl) (0, 0, 0, false) l i hi
  simp only [alE] at fc
  have ss := see_put l hi
  simp only [alE] at ss
  have i4 : i * 4 + 4 ≤ l.length * 4 := by omega
  have g8 := goodA_len hg
  simp -dsimp -implicitDefEqProofs (disch := omega) [go_sem, -List.getD_eq_getElem?_getD, ite_yes]
  refine ACall.of (l21Alarms_A l hl c _ t hS) ?_
  simp -dsimp -implicitDefEqProofs (disch := omega) [go_sem, -List.getD_eq_getElem?_getD, ite_yes, hg]
  refine ALoop.intro (ι := Nat) (fun k => k ≤ l.length ∧ findTo (0, 0, 0, false) (atNode node) l k) (fun k => [(0, .slice (some ⟨t, 0, none⟩) l.length c), (1, .int .i64 node), (6, .int .i64 k)]) (fun _ => H) (fun k => l.length - k) 0 ⟨by omega, fun i hi => by omega⟩ ?_ ?_
  · exact weakS_same (by simp -dsimp -implicitDefEqProofs (disch := omega) [go_sem, -List.getD_eq_getElem?_getD, ite_yes, ht])
  · rintro k ⟨hk, hf⟩
    by_cases hlt : k < l.length
    · have c0 := cs0 k hlt
      by_cases hp : (l.getD k (0, 0, 0, false)).1 = node
      · have e := found_uniq hr (.yes k hlt (decide_eq_true hp) hf)
        have e : i = k := by omega
        subst e
        rw [hp] at ss
        simp -dsimp -implicitDefEqProofs (disch := omega) [go_sem, -List.getD_eq_getElem?_getD, ite_yes, hlt, c0, hp, al, lf, ht, fc, i4]
        refine ⟨by omega, fin_list [some 1] rfl ?_ (by simp -dsimp -implicitDefEqProofs (disch := omega) [go_sem, -List.getD_eq_getElem?_getD, ite_yes])⟩
        simp -dsimp -implicitDefEqProofs (disch := omega) [go_sem, -List.getD_eq_getElem?_getD, ite_yes]
        exact .inl ⟨ss.symm, (congrArg (fun x => List.all x flat) ss).trans (alE_flat _)⟩
      · simp -dsimp -implicitDefEqProofs (disch := omega) [go_sem, -List.getD_eq_getElem?_getD, ite_yes, hlt, c0, hp]
        exact LoopEnd.of (k + 1) ⟨by omega, hf.next (decide_eq_false hp)⟩ (by omega) (weakS_same (by simp -dsimp -implicitDefEqProofs (disch := omega) [go_sem, -List.getD_eq_getElem?_getD, ite_yes, ht]))
    · obtain rfl : k = l.length := by omega
      have := found_uniq hr (.no hf)
      omega
theorem see_at {l : List Al} {node r : Int} (hr : Found (0, 0, 0, false) (atNode node) l r) (h : seeOk l r = true) : goodA l = true ∧ ∃ i : Nat, r = (i : Int) ∧ i < l.length := by
  simp only [seeOk, Bool.and_eq_true, decide_eq_true_eq] at h
  refine ⟨h.1, ?_⟩
  cases hr with
  | yes i h1 h2 h3 => exact ⟨i, rfl, h1⟩
  | no _ => omega
theorem see_le {l : List Al} {i : Nat} (h : l.length ≤ 1048577) : (seeL l i).length ≤ 1048577 := by rw [seeL_length]; exact h
end Go.Proofs.YthnnbgggfpempaaDoor
/- Taking a reading: plain. -/
namespace Go.Proofs.YthnnbgggfpempaaDoor
open Go.Am
set_option linter.unusedVariables false
set_option linter.unusedSimpArgs false
abbrev aD : Al := (0, 0, 0, false)
abbrev rD : Ar := (0, 0, 0, 0)
/-- the place of a node among alarms -/
def lowN (node : Int) : List Al → Nat
  | [] => 0
  | a :: r => if a.1 < node then lowN node r + 1 else 0
theorem lowN_le (node : Int) : ∀ l, lowN node l ≤ l.length
  | [] => Nat.le_refl _
  | a :: r => by have := lowN_le node r; rw [lowN]; split <;> simp <;> omega
theorem lowN_lt (node : Int) : ∀ l k, k < lowN node l → (l.getD k aD).1 < node
  | [], k, h => by simp [lowN] at h
  | a :: r, k, h => by
    rw [lowN] at h
    split at h
    · rename_i ha
      cases k with
      | zero => exact ha
      | succ k => exact lowN_lt node r k (by omega)
    · omega
theorem lowN_at (node : Int) : ∀ l, lowN node l < l.length → node ≤ (l.getD (lowN node l) aD).1
  | [], h => by simp at h
  | a :: r, h => by
    rw [lowN] at h ⊢
    split
    · rename_i ha
      rw [if_pos ha] at h
      exact lowN_at node r (by simp at h; omega)
    · rename_i ha
      show node ≤ a.1
      omega
/-- in order, and valid -/
def Ord (l : List Al) : Prop := (∀ a ∈ l, isAl a = true) ∧ l.Pairwise fun a b => a.1 < b.1
theorem getD_el {α : Type} {l : List α} {d : α} {k : Nat} (h : k < l.length) : l.getD k d = l[k] := by rw [List.getD_eq_getElem?_getD, List.getElem?_eq_getElem h]; rfl
theorem goodA_ord {l : List Al} : goodA l = true ↔ Ord l := by
  constructor
  · intro h
    have ha := asc_at h
    refine ⟨fun a hm => ?_, List.pairwise_iff_getElem.2 fun i j hi hj hij => ?_⟩
    · obtain ⟨i, hi, rfl⟩ := List.getElem_of_mem hm
      have := (ha i hi).1
      rwa [getD_el hi] at this
    · have key : ∀ k, i + k + 1 < l.length → (l.getD i aD).1 < (l.getD (i + k + 1) aD).1 := by
        intro k
        induction k with
        | zero =>
          intro hk
          have := (ha (i + 1) (by omega)).2 (by omega)
          exact of_decide_eq_true this
        | succ k ih =>
          intro hk
          have h1 := ih (by omega)
          have h2 : (l.getD (i + (k + 1) + 1 - 1) aD).1 < (l.getD (i + (k + 1) + 1) aD).1 := of_decide_eq_true ((ha (i + (k + 1) + 1) hk).2 (by omega))
          rw [Nat.add_sub_cancel] at h2
          have e : i + (k + 1) = i + k + 1 := by omega
          rw [e] at h2 ⊢
          exact Int.lt_trans h1 h2
      have := key (j - i - 1) (by omega)
      rw [show i + (j - i - 1) + 1 = j by omega, getD_el hi, getD_el hj] at this
      exact this
  · rintro ⟨h1, h2⟩
    refine goodA_end fun i hi => ⟨?_, fun h0 => ?_⟩
    · rw [getD_el hi]; exact h1 _ (List.getElem_mem _)
    · rw [getD_el hi, getD_el (show i - 1 < l.length by omega)]
      exact decide_eq_true (List.pairwise_iff_getElem.1 h2 (i - 1) i (by omega) hi (by omega))
def hasN (l : List Al) (node : Int) : Bool := decide (lowN node l < l.length ∧ (l.getD (lowN node l) aD).1 = node)
/-- where the alarms behind the node begin -/
def nextN (l : List Al) (node : Int) : Nat := lowN node l + (if hasN l node = true then 1 else 0)
theorem nextN_le (l : List Al) (node : Int) : nextN l node ≤ l.length := by
  have := lowN_le node l
  unfold nextN
  split
  · rename_i h
    have := (of_decide_eq_true h).1
    omega
  · omega
theorem drop_gt {l : List Al} (h : Ord l) (node : Int) {k : Nat} (hk : nextN l node ≤ k) (hl : k < l.length) : node < (l.getD k aD).1 := by
  have hp := lowN_at node l
  have mono : ∀ i j, i < j → j < l.length → (l.getD i aD).1 < (l.getD j aD).1 := fun i j hij hj => by
    rw [getD_el (show i < l.length by omega), getD_el hj]
    exact List.pairwise_iff_getElem.1 h.2 i j (by omega) hj hij
  unfold nextN at hk
  split at hk
  · rename_i hh
    have := (of_decide_eq_true hh).2
    have := mono (lowN node l) k (by omega) hl
    omega
  · rename_i hh
    rcases Nat.lt_or_ge (lowN node l) k with h1 | h1
    · have := mono (lowN node l) k h1 hl
      have := hp (by omega)
      omega
    · have e : lowN node l = k := by omega
      have h2 := hp (by omega)
      rw [e] at h2
      have : ¬ (l.getD k aD).1 = node := fun h3 => hh (decide_eq_true ⟨by omega, by rw [e]; exact h3⟩)
      omega
/-- the old kind -/
def oldN (l : List Al) (node : Int) : Int := if hasN l node = true then (l.getD (lowN node l) aD).2.1 else 0
/-- the alarm of a node after a reading -/
def newA (rule : Ar) (l : List Al) (r : Rg) : Al :=
  if kindN rule (oldN l r.2.1) r.2.2 = oldN l r.2.1 then (if hasN l r.2.1 = true then l.getD (lowN r.2.1 l) aD else (r.2.1, 0, 0, false)) else (r.2.1, kindN rule (oldN l r.2.1) r.2.2, r.1, false)
def take1 (rule : Ar) (l : List Al) (r : Rg) : List Al :=
  l.take (lowN r.2.1 l) ++ (if kindN rule (oldN l r.2.1) r.2.2 = 0 then [] else [newA rule l r]) ++ l.drop (nextN l r.2.1)
def atRule (node : Int) (a : Ar) : Bool := decide (a.1 = node)
noncomputable def ruleI (rs : List Ar) (node : Int) : Int := Classical.choose (found_ex rD (atRule node) rs rs.length 0 (by omega) (fun i hi => by omega) (by omega))
theorem ruleI_found (rs : List Ar) (node : Int) : Found rD (atRule node) rs (ruleI rs node) := Classical.choose_spec (found_ex rD (atRule node) rs rs.length 0 (by omega) (fun i hi => by omega) (by omega))
noncomputable def takeL (rs : List Ar) (l : List Al) (r : Rg) : List Al := if ruleI rs r.2.1 < 0 then l else take1 (rs.getD (ruleI rs r.2.1).toNat rD) l r
theorem ruleI_lt (rs : List Ar) (node : Int) : ruleI rs node < rs.length ∧ -1 ≤ ruleI rs node := by
  have := ruleI_found rs node
  generalize ruleI rs node = i at this
  cases this with
  | yes i h1 _ _ => omega
  | no h => omega
theorem found_low {l : List Al} (h : Ord l) (node : Int) : Found aD (atNode node) l (if hasN l node = true then (lowN node l : Int) else -1) := by
  have h1 := lowN_lt node l
  split
  · rename_i hh
    have := of_decide_eq_true hh
    refine .yes _ this.1 (decide_eq_true this.2) fun j hj => decide_eq_false ?_
    have := h1 j hj
    omega
  · rename_i hh
    refine .no fun j hj => decide_eq_false ?_
    rcases Nat.lt_or_ge j (lowN node l) with hlt | hge
    · have := h1 j hlt
      omega
    · have := drop_gt h node (k := j) (by unfold nextN; rw [if_neg hh]; omega) hj
      omega
theorem kindN_rng (rule : Ar) (old v : Int) (h : 0 ≤ old ∧ old ≤ 2) : 0 ≤ kindN rule old v ∧ kindN rule old v ≤ 2 := by
  unfold kindN
  split
  · omega
  · split
    · omega
    · split <;> omega
theorem mem_take_lt {l : List Al} {node : Int} {a : Al} (h : a ∈ l.take (lowN node l)) : a.1 < node := by
  obtain ⟨i, hi, rfl⟩ := List.getElem_of_mem h
  rw [List.length_take] at hi
  have := lowN_lt node l i (by omega)
  rw [List.getElem_take]
  rwa [getD_el (by omega)] at this
theorem mem_drop_gt {l : List Al} (ho : Ord l) {node : Int} {a : Al} (h : a ∈ l.drop (nextN l node)) : node < a.1 := by
  obtain ⟨i, hi, rfl⟩ := List.getElem_of_mem h
  rw [List.length_drop] at hi
  have := drop_gt ho node (k := nextN l node + i) (by omega) (by omega)
  rw [List.getElem_drop]
  rwa [getD_el (by omega)] at this
theorem ordAl_at {l : List Al} (h : Ord l) {k : Nat} (hk : k < l.length) : isAl (l.getD k aD) = true := by rw [getD_el hk]; exact h.1 _ (List.getElem_mem _)
theorem isAl_rng {a : Al} (h : isAl a = true) : (1 ≤ a.1 ∧ a.1 ≤ 8) ∧ (1 ≤ a.2.1 ∧ a.2.1 ≤ 2) ∧ 0 ≤ a.2.2.1 ∧ a.2.2.1 ≤ 9999 := by
  simp only [isAl, inB, Bool.and_eq_true, decide_eq_true_eq] at h
  omega
theorem oldN_rng {l : List Al} (h : Ord l) (node : Int) : 0 ≤ oldN l node ∧ oldN l node ≤ 2 ∧ (hasN l node = true → 1 ≤ oldN l node) := by
  unfold oldN
  split
  · rename_i hh
    have := isAl_rng (ordAl_at h (of_decide_eq_true hh).1)
    omega
  · rename_i hh
    exact ⟨by omega, by omega, fun h => absurd h hh⟩
theorem newA_node {rule : Ar} {l : List Al} {r : Rg} : (newA rule l r).1 = r.2.1 := by
  unfold newA
  split
  · split
    · rename_i hh
      exact (of_decide_eq_true hh).2
    · rfl
  · rfl
theorem newA_ok {rule : Ar} {l : List Al} {r : Rg} (h : Ord l) (hr : isRg r = true) (hk : ¬ kindN rule (oldN l r.2.1) r.2.2 = 0) : isAl (newA rule l r) = true := by
  have ho := oldN_rng h r.2.1
  have kr := kindN_rng rule (oldN l r.2.1) r.2.2 (by omega)
  simp only [isRg, inB, Bool.and_eq_true, decide_eq_true_eq] at hr
  unfold newA
  split
  · rename_i e
    split
    · rename_i hh
      exact ordAl_at h (of_decide_eq_true hh).1
    · rename_i hh
      exfalso
      apply hk
      rw [e]
      unfold oldN
      rw [if_neg hh]
  · simp only [isAl, inB, Bool.and_eq_true, decide_eq_true_eq]
    omega
theorem take1_ord {rule : Ar} {l : List Al} {r : Rg} (h : Ord l) (hr : isRg r = true) : Ord (take1 rule l r) := by
  unfold take1
  refine ⟨fun a ha => ?_, ?_⟩
  · simp only [List.mem_append] at ha
    rcases ha with (ha | ha) | ha
    · exact h.1 a (List.mem_of_mem_take ha)
    · split at ha
      · cases ha
      · rename_i hk
        rw [List.mem_singleton] at ha
        rw [ha]
        exact newA_ok h hr hk
    · exact h.1 a (List.mem_of_mem_drop ha)
  · refine List.pairwise_append.2 ⟨List.pairwise_append.2 ⟨h.2.sublist (List.take_sublist _ _), ?_, fun a ha b hb => ?_⟩, h.2.sublist (List.drop_sublist _ _), fun a ha b hb => ?_⟩
    · split <;> simp
    · have := mem_take_lt ha
      split at hb
      · cases hb
      · rw [List.mem_singleton] at hb
        rw [hb, newA_node]
        exact this
    · have hg := mem_drop_gt h hb
      rw [List.mem_append] at ha
      rcases ha with ha | ha
      · have := mem_take_lt ha
        omega
      · split at ha
        · cases ha
        · rw [List.mem_singleton] at ha
          rw [ha, newA_node]
          exact hg
theorem takeL_ord {rs : List Ar} {l : List Al} {r : Rg} (h : Ord l) (hr : isRg r = true) : Ord (takeL rs l r) := by
  unfold takeL
  split
  · exact h
  · exact take1_ord h hr
/-- the alarms without the node's -/
def offL (l : List Al) (node : Int) : List Al := l.take (lowN node l) ++ l.drop (nextN l node)
theorem take_has {l : List Al} {node : Int} (hh : hasN l node = true) : l.take (lowN node l) ++ l.getD (lowN node l) aD :: l.drop (lowN node l + 1) = l := by
  have := (of_decide_eq_true hh).1
  rw [getD_el this]
  rw [List.getElem_cons_drop, List.take_append_drop]
/-- nothing changes -/
theorem take1_same {rule : Ar} {l : List Al} {r : Rg} (h : Ord l) (hk : kindN rule (oldN l r.2.1) r.2.2 = oldN l r.2.1) : take1 rule l r = l := by
  have ho := oldN_rng h r.2.1
  unfold take1 newA nextN
  rw [hk]
  simp only [if_true]
  by_cases hh : hasN l r.2.1 = true
  · have := ho.2.2 hh
    rw [if_neg (by omega), if_pos hh, if_pos hh, List.append_assoc, List.singleton_append]
    exact take_has hh
  · have e : oldN l r.2.1 = 0 := by unfold oldN; rw [if_neg hh]
    rw [if_pos e, if_neg hh, Nat.add_zero, List.append_nil, List.take_append_drop]
theorem take1_off {rule : Ar} {l : List Al} {r : Rg} (hk : kindN rule (oldN l r.2.1) r.2.2 = 0) : take1 rule l r = offL l r.2.1 := by
  unfold take1 offL
  rw [if_pos hk, List.append_nil]
theorem take1_new {rule : Ar} {l : List Al} {r : Rg} (hk : ¬ kindN rule (oldN l r.2.1) r.2.2 = oldN l r.2.1) (h0 : ¬ kindN rule (oldN l r.2.1) r.2.2 = 0) :
    take1 rule l r = (offL l r.2.1).take (lowN r.2.1 l) ++ (r.2.1, kindN rule (oldN l r.2.1) r.2.2, r.1, false) :: (offL l r.2.1).drop (lowN r.2.1 l) := by
  have hp := lowN_le r.2.1 l
  unfold take1 offL newA
  rw [if_neg h0, if_neg hk]
  have tl : (l.take (lowN r.2.1 l)).length = lowN r.2.1 l := by rw [List.length_take]; omega
  have e1 : (l.take (lowN r.2.1 l) ++ l.drop (nextN l r.2.1)).take (lowN r.2.1 l) = l.take (lowN r.2.1 l) := by
    rw [List.take_append_of_le_length (by omega), List.take_take, Nat.min_self]
  have e2 : (l.take (lowN r.2.1 l) ++ l.drop (nextN l r.2.1)).drop (lowN r.2.1 l) = l.drop (nextN l r.2.1) := by
    rw [List.drop_append, tl, Nat.sub_self, List.drop_zero, List.drop_of_length_le (by omega), List.nil_append]
  rw [e1, e2, List.append_assoc, List.singleton_append]
theorem offL_length (l : List Al) (node : Int) : (offL l node).length = lowN node l + (l.length - nextN l node) := by
  have hp := lowN_le node l
  unfold offL
  rw [List.length_append, List.length_take, List.length_drop]
  omega
theorem offL_lt (l : List Al) (node : Int) {k : Nat} (hk : k < lowN node l) : ((offL l node).getD k aD).1 < node := by
  have := lowN_lt node l k hk
  have hp := lowN_le node l
  unfold offL
  rw [List.getD_eq_getElem?_getD, List.getElem?_append_left (by rw [List.length_take]; omega), List.getElem?_take, if_pos hk, ← List.getD_eq_getElem?_getD]
  exact this
theorem offL_at {l : List Al} (h : Ord l) (node : Int) (hk : lowN node l < (offL l node).length) : ¬ ((offL l node).getD (lowN node l) aD).1 < node := by
  have hp := lowN_le node l
  rw [offL_length] at hk
  have := drop_gt h node (k := nextN l node) (Nat.le_refl _) (by omega)
  unfold offL
  rw [List.getD_eq_getElem?_getD, List.getElem?_append_right (by rw [List.length_take]; omega), List.length_take, Nat.min_eq_left hp, Nat.sub_self, List.getElem?_drop, Nat.add_zero, ← List.getD_eq_getElem?_getD]
  omega
end Go.Proofs.YthnnbgggfpempaaDoor
/- slices.Insert at a struct's elements: its two roads in the midst of a list, as they run. -/
namespace Go.Proofs.YthnnbgggfpempaaDoor
open Go.Am Go.Lib Go.RowKit
set_option linter.unusedVariables false
set_option linter.unusedSimpArgs false
set_option maxRecDepth 100000
set_option maxHeartbeats 4000000

/-- copy, elements of s cells, onto a row -/
theorem run_copy_rowN {P : Program} (w : World) (dT sT ty elem : TypeId) (g o dLen dCap : Nat) (a : Addr) (sLen sCap s : Nat) (cur : Array Value) (t : TypeId) (cs : List Value)
    (hu : P.underlying dT = some (.slice elem)) (hs : ∀ w, (Go.sizeOf elem).run P w = .ok s w)
    (hg : w.heap[g]? = some (.cells cur t (0, 0))) (hn : cs.length = Nat.min sLen dLen * s)
    (hsrc : ∀ j v, cs[j]? = some v → w.cell? (a.add j) = some v) (hfit : o + cs.length ≤ cur.size) (h1 : ∀ v ∈ cs, v.oneCell' = true) :
    (Builtin.copy_ #[dT, sT] ty #[.slice (some ⟨g, o, none⟩) dLen dCap, .slice (some a) sLen sCap]).run P w =
      .ok (goInt (Nat.min sLen dLen : Nat)) (w.setRow g (cur.toList.take o ++ cs ++ cur.toList.drop (o + cs.length)).toArray) := by
  have hl := run_loadCells_list (P := P) w a cs hsrc
  have hst := run_storeCells_at P g o t cs 0 cur w hg (by simpa using hfit) h1
  rw [hn] at hl
  simp [Builtin.copy_, run_underlying hu, Builtin.lenOf, Builtin.firstCells, hs, hl, hst]
theorem wp_copy_runJ {P : Program} (w : World) {o : Oper} {a : Act} {K : Act → World → Prop} {Q : Exit → Act → World → Prop} (d s : Operand) (t t' : TypeId)
    (ho : o.op = .call { callee := .builtin .copy, args := #[d, s], argTypes := #[t, t'] }) (v u : Value) (hd : a.eval d = v) (hs : a.eval s = u) {v' : Value} {w' : World}
    (hr : (Builtin.copy_ #[t, t'] o.type #[v, u]).run P w = .ok v' w') (h : K (a.put o.dst v') w') : o.wp P a w K Q := by
  unfold Oper.wp execOp
  simp only [ho, resolve, invoke, builtin, Sem.run_bind, Sem.run_pure, Result.andThen_ok, List.map_toArray, List.map_cons, List.map_nil, hd, hs, hr]
  exact h
theorem wpList_copy_runJ {P : Program} (w : World) {ops : Array Oper} {rest : List Oper} {o : Oper} {a : Act} {Q : Exit → Act → World → Prop} (hgd : o.guard = none) (d s : Operand) (t t' : TypeId)
    (ho : o.op = .call { callee := .builtin .copy, args := #[d, s], argTypes := #[t, t'] }) (v u : Value) (hd : a.eval d = v) (hs : a.eval s = u) {v' : Value} {w' : World}
    (hr : (Builtin.copy_ #[t, t'] o.type #[v, u]).run P w = .ok v' w') (h : wpList P ops Q rest (a.put o.dst v') w') : wpList P ops Q (o :: rest) a w :=
  wpList_plain hgd fun _ hK => wp_copy_runJ w d s t t' ho v u hd hs hr (hK _ _ h)
theorem step_copy_runJ {P : Program} {ops : Array Oper} {o : Oper} {a : Act} {w : World} {K : Act → World → Prop} {Q : Exit → Act → World → Prop} {E : Prop}
    (hg : o.guard = none) (d x : Operand) (dT sT : TypeId) (hop : o.op = Op.call { callee := Callee.builtin Builtin.copy, args := #[d, x], argTypes := #[dT, sT] })
    (v u : Value) (hd : a.eval d = v) (hx : a.eval x = u) {v' : Value} {w' : World} (hr : (Builtin.copy_ #[dT, sT] o.type #[v, u]).run P w = .ok v' w') (hK : K (a.put o.dst v') w') :
    if Region.wanted o (yielded ops a.tmps) = true then Oper.wp P o a w K Q else E := by
  have hw : Region.wanted o (yielded ops a.tmps) = true := by simp [Region.wanted, hg]
  rw [if_pos hw]
  unfold Oper.wp
  simp [execOp, hop, resolve, invoke, builtin, hd, hx, hr, Result.andThen]
  exact hK
/-- slices.Insert: one element, i < len(s), there is room -/
theorem ins_shift_C (b off n c i vb vo vc : Nat) (vs : List Value) (w : World) (cur : Array Value) (hi : i < n) (hroom : n + 1 ≤ c) (hc63 : c ≤ 9223372036854775807) (hvb : vb ≠ b)
    (hg : w.heap[b]? = some (.cells cur 67 (0, 0))) (hfit : off + (n + 1) * 4 ≤ cur.size) (hvl : vs.length = 4)
    (h1 : ∀ v ∈ (cur.toList.drop (off + i * 4)).take ((n - i) * 4), v.oneCell' = true)
    (hvs : ∀ j v, vs[j]? = some v → w.cell? ⟨vb, vo + j, none⟩ = some v) (h1v : ∀ v ∈ vs, v.oneCell' = true)
    (kA : Nat) (hsa : w.shape? vb = some (67, kA)) (hfa : w.frozen? ⟨vb, vo, none⟩ = false) (hfe : w.frozen? ⟨vb, kA, none⟩ = false) :
    Calls Tryd.prog 134 #[.slice (some ⟨b, off, none⟩) n c, .int .i64 i, .slice (some ⟨vb, vo, none⟩) 1 vc] w fun e w' =>
      e = .returned (.slice (some ⟨b, off, none⟩) (n + 1) c) ∧
      w' = w.drew.setRow b (cur.toList.take (off + i * 4) ++ vs ++ ((cur.toList.drop (off + i * 4)).take ((n - i) * 4)) ++ cur.toList.drop (off + (n + 1) * 4)).toArray := by
  have u3 := run_underlying Tryd.underlying3
  have hz2 : ¬ ((i : Int) = (n : Int)) := by omega
  have hov : ∀ lb cb, (callFunc 148 #[.slice (some ⟨vb, vo, none⟩) 1 vc, .slice (some ⟨b, off + (i + 1) * 4, none⟩) lb cb]).run Tryd.prog w = .ok (.value (.bool false)) w := fun lb cb => by
    rw [run_callFunc_extern Tryd.func148 (by kernel_rfl) (by kernel_rfl) (by kernel_rfl) (e := Extern.SlicesOverlaps.overlaps #[57, 57] #[4]) (by kernel_rfl),
      Lib.run_overlaps_apart w 57 4 67 Tryd.underlying57 4 Tryd.sizeOf67 ⟨vb, vo, none⟩ ⟨b, off + (i + 1) * 4, none⟩ 1 vc lb cb hvb 67 67 kA cur.size hsa (by simp [World.shape?, hg]) (by omega) hfa hfe]
    rfl
  have hw1 : IntKind.i64.wrap ((i : Int) + 1) = (i : Int) + 1 := by rw [IntKind.wrap_i64]; omega
  have hb1 : (0 : Int) ≤ (i : Int) + 1 := by omega
  have hin : i ≤ n := by omega
  have htn : ((i : Int) + 1).toNat = i + 1 := by omega
  have hb2 : ¬ (c = i + 1) := by omega
  have hb3 : (i : Int) ≤ (n : Int) + 1 := by omega
  have hb4 : ¬ (c = i) := by omega
  have hcl : cur.toList.length = cur.size := rfl
  obtain ⟨D, hD⟩ : ∃ D, D = off + i * 4 := ⟨_, rfl⟩
  have hD2 : D + (n - i) * 4 + 4 = off + (n + 1) * 4 := by rw [Nat.sub_mul]; omega
  obtain ⟨cs, hcs⟩ : ∃ cs, cs = (cur.toList.drop D).take ((n - i) * 4) := ⟨_, rfl⟩
  have hcsl : cs.length = (n - i) * 4 := by rw [hcs, List.length_take, List.length_drop, hcl]; omega
  obtain ⟨cur1, hcur1⟩ : ∃ cur1 : Array Value, cur1 = (cur.toList.take (D + 4) ++ cs ++ cur.toList.drop (D + 4 + cs.length)).toArray := ⟨_, rfl⟩
  have hcs1 : cur1.size = cur.size := by
    rw [hcur1]
    simp only [List.size_toArray, List.length_append, List.length_take, List.length_drop, hcl]
    omega
  have hgd : w.drew.heap[b]? = some (.cells cur 67 (0, 0)) := hg
  have hcp1 : ∀ ty dc sc, (Builtin.copy_ #[57, 57] ty #[.slice (some ⟨b, off + (i + 1) * 4, none⟩) (n - i) dc, .slice (some ⟨b, off + i * 4, none⟩) (n + 1 - i) sc]).run Tryd.prog w.drew = .ok (goInt (Nat.min (n + 1 - i) (n - i) : Nat)) (w.drew.setRow b cur1) := fun ty dc sc => by
    rw [show off + (i + 1) * 4 = D + 4 by omega, ← hD, hcur1]
    exact run_copy_rowN w.drew _ _ ty _ b (D + 4) _ _ ⟨b, D, none⟩ _ _ 4 cur _ cs Tryd.underlying57 Tryd.sizeOf67 hgd (by rw [hcsl]; congr 1; simp only [Nat.min_def]; split <;> omega)
      (fun j v hj => by
        rw [addr_addo, cell_of_row _ b (D + j) cur _ (0, 0) hgd]
        rw [hcs, List.getElem?_take] at hj
        split at hj
        · rw [List.getElem?_drop] at hj; simpa using hj
        · cases hj)
      (by omega) (fun v hv => h1 v (by rw [← hD, ← hcs]; exact hv))
  obtain ⟨W1, hW1⟩ : ∃ W1, W1 = w.drew.setRow b cur1 := ⟨_, rfl⟩
  have hg1 : W1.heap[b]? = some (.cells cur1 67 (0, 0)) := by rw [hW1]; exact setRow_heap w.drew b cur cur1 _ (0, 0) hgd
  have hcp2 : ∀ (W : World), W.heap = W1.heap → ∀ ty dc, (Builtin.copy_ #[57, 57] ty #[.slice (some ⟨b, off + i * 4, none⟩) (n + 1 - i) dc, .slice (some ⟨vb, vo, none⟩) 1 vc]).run Tryd.prog W = .ok (goInt (Nat.min 1 (n + 1 - i) : Nat)) (W.setRow b (cur1.toList.take D ++ vs ++ cur1.toList.drop (D + vs.length)).toArray) := fun W hW ty dc => by
    rw [← hD]
    exact run_copy_rowN W _ _ ty _ b D _ _ ⟨vb, vo, none⟩ _ _ 4 cur1 _ vs Tryd.underlying57 Tryd.sizeOf67 (by rw [hW]; exact hg1) (by rw [hvl]; simp only [Nat.min_def]; split <;> omega)
      (fun j v hj => by
        have := hvs j v hj
        rw [addr_addo]
        unfold World.cell? at this ⊢
        rw [hW, hW1, setRow_other w.drew b vb _ hvb]
        exact this)
      (by omega) h1v
  have hfin : W1.setRow b (cur1.toList.take D ++ vs ++ cur1.toList.drop (D + vs.length)).toArray = w.drew.setRow b (cur.toList.take (off + i * 4) ++ vs ++ ((cur.toList.drop (off + i * 4)).take ((n - i) * 4)) ++ cur.toList.drop (off + (n + 1) * 4)).toArray := by
    rw [hW1, setRow_setRow, ← hD, ← hcs, hvl]
    congr 2
    rw [hcur1]
    simp only [List.append_assoc]
    rw [List.take_append_of_le_length (by rw [List.length_take, hcl]; omega), List.take_take, Nat.min_eq_left (by omega)]
    rw [List.drop_append, List.length_take, hcl, Nat.min_eq_left (by omega), Nat.sub_self, List.drop_zero, List.drop_of_length_le (by rw [List.length_take, hcl]; omega), List.nil_append, hcsl]
    rw [show D + 4 + (n - i) * 4 = off + (n + 1) * 4 by omega]
  rw [← hW1] at hcp1
  have mixed : Tryd.prog.follows .mixedOrders = true := by kernel_rfl
  clear hD hD2 hcs hcsl hcur1 hcs1 hgd hcl
  go_enter Tryd.func134, Tryd.ntmps134
  go_wp2_with (simp only [hov])
  go_region_law_o (refine step_copy_runJ rfl _ _ 57 57 rfl _ _ (by simp [Act.eval, Act.put]) (by simp [Act.eval, Act.put]) (hcp1 _ _ _) ?_)
  go_wp2_with (at_builtin; refine wpList_copy_runJ _ rfl _ _ 57 57 rfl _ _ rfl rfl (hcp2 _ rfl _ _) ?_)
  go_ret
  rw [hW1, hvl, List.append_assoc] at hfin
  exact ⟨rfl, hfin⟩
/-- slices.Insert: one element, i < len(s), there is no room -/
theorem ins_grow_C (b off n c i vb vo vc : Nat) (vs : List Value) (w : World) (cur : Array Value) (hi : i < n) (hnc : n ≤ c) (hroom : c < n + 1) (hbig : n ≤ 1000000000) 
    (hg : w.heap[b]? = some (.cells cur 67 (0, 0))) (hfit : off + n * 4 ≤ cur.size) (hvl : vs.length = 4) (hvb : vb < w.heap.size)
    (h1 : ∀ v ∈ (cur.toList.drop (off + i * 4)).take ((n - i) * 4), v.oneCell' = true)
    (hvs : ∀ j v, vs[j]? = some v → w.cell? ⟨vb, vo + j, none⟩ = some v) (h1v : ∀ v ∈ vs, v.oneCell' = true) :
    Calls Tryd.prog 134 #[.slice (some ⟨b, off, none⟩) n c, .int .i64 i, .slice (some ⟨vb, vo, none⟩) 1 vc] w fun e w' => ∃ (G : Nat) (row0 row1 row : Array Value),
      e = .returned (.slice (some ⟨w.heap.size, 0, none⟩) (n + 1) G) ∧ n + 1 ≤ G ∧ G ≤ maxLen ∧ row.size = G * 4 ∧
      row.toList.take ((n + 1) * 4) = (cur.toList.drop off).take (i * 4) ++ vs ++ (cur.toList.drop (off + i * 4)).take ((n - i) * 4) ∧
      w' = (((w.alloc (.cells row0 67)).drew.setRow w.heap.size row1).drew.setRow w.heap.size row) := by
  have u3 := run_underlying Tryd.underlying3
  have hcl : cur.toList.length = cur.size := rfl
  have hbw : b < w.heap.size := (Array.getElem?_eq_some_iff.1 hg).1
  obtain ⟨i0, z, ht, hi0, hz0, hsz, hby, hzs, hpos⟩ := appT_spec (show appT Tryd.prog 57 = some (67, 4, 32) by kernel_rfl)
  have hz2 : ¬ ((i : Int) = (n : Int)) := by omega
  have hz3 : (c : Int) < (n : Int) + 1 := by omega
  have hkk : (n : Int) + 1 - (i : Int) = ((n + 1 - i : Nat) : Int) := by omega
  have hik : i + (n + 1 - i) = n + 1 := by omega
  obtain ⟨olds, holds⟩ : ∃ olds, olds = (cur.toList.drop off).take (i * 4) := ⟨_, rfl⟩
  have holl : olds.length = i * 4 := by rw [holds, List.length_take, List.length_drop, hcl]; omega
  obtain ⟨rest, hrest⟩ : ∃ rest, rest = (cur.toList.drop (off + i * 4)).take ((n - i) * 4) := ⟨_, rfl⟩
  have hrl : rest.length = (n - i) * 4 := by rw [hrest, List.length_take, List.length_drop, hcl]; rw [Nat.sub_mul]; omega
  have hcell : ∀ j v, cur.toList[j]? = some v → w.cell? ⟨b, j, none⟩ = some v := fun j v hj => by
    rw [cell_of_row _ b j cur _ (0, 0) hg]
    simpa using hj
  have hold : (Builtin.firstCells i0.size i (.slice (some ⟨b, off, none⟩) i c)).run Tryd.prog w.drew = .ok olds.toArray w.drew := by
    rw [hsz]
    exact run_firstCells_some w.drew 4 i ⟨b, off, none⟩ i c olds holl (fun j v hj => by
      rw [addr_addo]
      rw [holds, List.getElem?_take] at hj
      split at hj
      · rw [List.getElem?_drop] at hj; exact hcell _ v hj
      · cases hj)
  obtain ⟨G, hG⟩ : ∃ G, G = grownCap w (n + 1) c 67 := ⟨_, rfl⟩
  obtain ⟨ROW, hROW⟩ : ∃ ROW : Array Value, ROW = olds.toArray ++ Builtin.zeroCells z.cells (n + 1 - i) ++ Builtin.zeroCells z.cells (G - (n + 1)) := ⟨_, rfl⟩
  have hGn : n + 1 ≤ G := by rw [hG]; exact grownCap_ge w _ _ _
  have hGm : G ≤ maxLen := by rw [hG]; exact grownCap_le_maxLen w (n + 1) c _ (by unfold maxLen; omega)
  have hrz : ∀ ty, (Builtin.append_ #[57, 3] ty #[.slice (some ⟨b, off, none⟩) i c, .int .i64 ((n : Int) + 1 - (i : Int))]).run Tryd.prog w =
      .ok (.slice (some ⟨w.heap.size, 0, none⟩) (n + 1) G) (w.drew.alloc (.cells ROW 67)) := fun ty => by
    have h := Lib.run_append_grow_zeros w 57 3 ty 67 i0 _ .i64 .i64 ht Tryd.underlying3 hi0 hz0 (some ⟨b, off, none⟩) i c olds hold (n + 1 - i) (by omega) (by omega) (by omega) (by omega) (by rw [hby]; omega) (by rw [hby, hik]; exact growslice_fits hroom (by omega))
    rw [hik] at h
    rw [hkk, hROW, hG]
    exact h
  have hRs : ROW.size = G * 4 := by
    rw [hROW]
    simp only [Array.size_append, List.size_toArray, size_zeroCells, holl, hzs, hsz]
    omega
  have hRt : ROW.toList.take (i * 4) = olds := by
    rw [hROW]
    simp only [Array.toList_append, List.append_assoc]
    rw [← holl]
    exact List.take_left
  obtain ⟨W1, hW1⟩ : ∃ W1, W1 = w.drew.alloc (.cells ROW 67) := ⟨_, rfl⟩
  have hN : W1.heap[w.heap.size]? = some (.cells ROW 67 (0, 0)) := by rw [hW1]; exact alloc_new w.drew _
  have hOld : ∀ k, k < w.heap.size → W1.heap[k]? = w.heap[k]? := fun k hk => by rw [hW1]; exact alloc_old w.drew _ k hk
  obtain ⟨row1, hrow1⟩ : ∃ row1 : Array Value, row1 = (ROW.toList.take (i * 4) ++ vs ++ ROW.toList.drop (i * 4 + vs.length)).toArray := ⟨_, rfl⟩
  have hRcl : ROW.toList.length = ROW.size := rfl
  have hGi : (n + 1) * 4 ≤ G * 4 := Nat.mul_le_mul_right _ hGn
  have hni : (n - i) * 4 + i * 4 = n * 4 := by rw [← Nat.add_mul]; congr 1; omega
  have hs1 : row1.size = G * 4 := by
    rw [hrow1]
    simp only [List.size_toArray, List.length_append, List.length_take, List.length_drop, hRcl, hvl, hRs]
    omega
  have hcpA : ∀ (W : World), W.heap = W1.heap → ∀ ty dc, (Builtin.copy_ #[57, 57] ty #[.slice (some ⟨w.heap.size, i * 4, none⟩) (n + 1 - i) dc, .slice (some ⟨vb, vo, none⟩) 1 vc]).run Tryd.prog W = .ok (goInt (Nat.min 1 (n + 1 - i) : Nat)) (W.setRow w.heap.size row1) := fun W hW ty dc => by
    rw [hrow1]
    exact run_copy_rowN W _ _ ty _ w.heap.size (i * 4) _ _ ⟨vb, vo, none⟩ _ _ 4 ROW _ vs Tryd.underlying57 Tryd.sizeOf67 (by rw [hW]; exact hN) (by rw [hvl]; simp only [Nat.min_def]; split <;> omega)
      (fun j v hj => by
        have := hvs j v hj
        rw [addr_addo]
        unfold World.cell? at this ⊢
        rw [hW, hOld vb hvb]
        exact this)
      (by omega) h1v
  obtain ⟨row, hrow⟩ : ∃ row : Array Value, row = (row1.toList.take ((i + 1) * 4) ++ rest ++ row1.toList.drop ((i + 1) * 4 + rest.length)).toArray := ⟨_, rfl⟩
  have hr1l : row1.toList.length = row1.size := rfl
  have hs2 : row.size = G * 4 := by
    rw [hrow]
    simp only [List.size_toArray, List.length_append, List.length_take, List.length_drop, hr1l, hs1, hrl]
    omega
  have hcpB : ∀ (W : World), W.heap = (W1.setRow w.heap.size row1).heap → ∀ ty dc sc, (Builtin.copy_ #[57, 57] ty #[.slice (some ⟨w.heap.size, (i + 1) * 4, none⟩) (n - i) dc, .slice (some ⟨b, off + i * 4, none⟩) (n - i) sc]).run Tryd.prog W = .ok (goInt (Nat.min (n - i) (n - i) : Nat)) (W.setRow w.heap.size row) := fun W hW ty dc sc => by
    rw [hrow]
    exact run_copy_rowN W _ _ ty _ w.heap.size ((i + 1) * 4) _ _ ⟨b, off + i * 4, none⟩ _ _ 4 row1 _ rest Tryd.underlying57 Tryd.sizeOf67 (by rw [hW]; exact setRow_heap W1 w.heap.size ROW row1 _ (0, 0) hN) (by rw [hrl]; congr 1; simp)
      (fun j v hj => by
        rw [addr_addo]
        rw [hrest, List.getElem?_take] at hj
        split at hj
        · rw [List.getElem?_drop] at hj
          have := hcell _ v hj
          unfold World.cell? at this ⊢
          rw [hW, setRow_other W1 w.heap.size b _ (by omega), hOld b hbw]
          exact this
        · cases hj)
      (by omega) (fun v hv => h1 v (by rw [← hrest]; exact hv))
  have hfin : row.toList.take ((n + 1) * 4) = olds ++ vs ++ rest := by
    have e1 : row1.toList.take ((i + 1) * 4) = olds ++ vs := by
      rw [hrow1, hRt]
      simp only [List.append_assoc]
      rw [← List.append_assoc, show (i + 1) * 4 = (olds ++ vs).length by rw [List.length_append, holl, hvl]; omega]
      exact List.take_left
    rw [hrow, e1]
    simp only
    rw [show (n + 1) * 4 = (olds ++ vs ++ rest).length by simp only [List.length_append, holl, hvl, hrl]; omega]
    exact List.take_left
  have hb1 : (0 : Int) ≤ (i : Int) + 1 := by omega
  have hin : i ≤ n := by omega
  have htn : ((i : Int) + 1).toNat = i + 1 := by omega
  have hb3 : (i : Int) ≤ (n : Int) := by omega
  have hG63 : G ≤ 9223372036854775807 := by unfold maxLen at hGm; omega
  have hGi2 : ¬ (G = i) := by omega
  have hGim : ¬ (G = i + 1) := by omega
  have hci : ¬ (c = i) := by omega
  have hw1 : IntKind.i64.wrap ((i : Int) + 1) = (i : Int) + 1 := by rw [IntKind.wrap_i64]; omega
  have mixed : Tryd.prog.follows .mixedOrders = true := by kernel_rfl
  subst hW1
  have hcpA2 := hcpA ((w.alloc (.cells ROW 67)).drew) rfl
  have hcpB2 := hcpB ((((w.alloc (.cells ROW 67)).drew.setRow w.heap.size row1)).drew) rfl
  clear hkk hik hold hROW hG hRs hRt hGi hni hs1 hcl hRcl hr1l
  rw [← holds, ← hrest]
  clear holds hrest hrow hrow1
  go_enter Tryd.func134, Tryd.ntmps134
  go_wp2_with (at_builtin; refine Lib.wpList_append_run _ rfl _ _ _ _ rfl _ _ rfl rfl _ _ (hrz _) ?_)
  go_region_law_o (refine step_copy_runJ rfl _ _ 57 57 rfl _ _ (by simp [Act.eval, Act.put]) (by simp [Act.eval, Act.put]) (hcpB2 _ _ _) ?_)
  go_wp2
  go_ret
  exact ⟨G, ROW, row1, row, rfl, hGn, hGm, hs2, hfin, rfl⟩
end Go.Proofs.YthnnbgggfpempaaDoor
/- slices.Insert at a struct's elements: its contract. -/
namespace Go.Proofs.YthnnbgggfpempaaDoor
open Go.Am Go.Lib Go.RowKit
set_option linter.unusedVariables false
set_option linter.unusedSimpArgs false
set_option maxRecDepth 100000
set_option maxHeartbeats 4000000
theorem flat_one {l : List Value} (h : l.all flat = true) : ∀ v ∈ l, v.oneCell' = true := fun v hv => by
  have := List.all_eq_true.1 h v hv
  cases v with
  | pointer a => cases a <;> simp_all [flat, Value.oneCell']
  | slice a n c => cases a <;> simp_all [flat, Value.oneCell']
  | _ => simp_all [flat, Value.oneCell']
/-- a block of flat cells, as it lies -/
theorem own_row {ρ : Rho} {H : Heap} {w : World} (hh : HR ρ H w) {t : Nat} {xs : List Value} {e s : Nat} {A : Addr} {cap sz : Nat} (hb : H.get t = some ⟨xs, true, e, s⟩) (hA : ρ t = some (.real A cap sz)) (hf : xs.all flat = true) :
    ∃ cur : Array Value, A = ⟨A.block, A.off, none⟩ ∧ w.heap[A.block]? = some (.cells cur e (0, 0)) ∧ cur.size = A.off + cap ∧ sz = s ∧ xs.length ≤ cap ∧ xs = (cur.toList.drop A.off).take xs.length := by
  obtain ⟨cur, h1, h2, h3, h4, h5, h6⟩ := blk_cells hh hb rfl hA
  exact ⟨cur, h1, h2, h3, h4, h5, ((L2_flat hf).1 h6).symm⟩
theorem insNew_flat {bx vx : List Value} (i m : Nat) (hf : bx.all flat = true) (hvf : vx.all flat = true) : (bx.take (i * 4) ++ vx ++ (bx.drop (i * 4)).take m).all flat = true := by
  rw [List.all_eq_true] at *
  intro x hx
  simp only [List.mem_append] at hx
  rcases hx with (hx | hx) | hx
  · exact hf x (List.mem_of_mem_take hx)
  · exact hvf x hx
  · exact hf x (List.mem_of_mem_drop (List.mem_of_mem_take hx))
theorem insert_A {H : Heap} {tg tv i n c vc : Nat} {bx vx : List Value} (hn : n ≤ 1000000000) (hi : i < n)
    (hb : H.get tg = some ⟨bx, true, 67, 4⟩) (hfit : n * 4 ≤ bx.length) (hf : bx.all flat = true)
    (hv : H.get tv = some ⟨vx, true, 67, 4⟩) (hvl : vx.length = 4) (hvf : vx.all flat = true) (hne : tv ≠ tg) :
    AFunC Tryd.prog 134 [.slice (some ⟨tg, 0, none⟩) n c, .int .i64 i, .slice (some ⟨tv, 0, none⟩) 1 vc] H
      (.slice (some ⟨H.length, 0, none⟩) (n + 1) (n + 1)) (H.set tg none ++ [some ⟨bx.take (i * 4) ++ vx ++ (bx.drop (i * 4)).take ((n - i) * 4), true, 67, 4⟩]) := by
  refine ⟨⟨_, Tryd.func134, by kernel_rfl, rfl⟩, ?_⟩
  intro ρ w cargs hh hl
  obtain ⟨cl⟩ := cargs
  match cl, hl with
  | [c0, c1, c2], ⟨s0, s1, s2, _⟩ =>
  have s1' : c1 = .int .i64 i := (CR_flat (ρ := ρ) (v := .int .i64 i) (cv := c1) rfl).1 s1
  subst s1'
  obtain ⟨_, L, A', c', hL, rfl, hnc, hcm, hor⟩ := (show SlR ρ ⟨tg, 0, none⟩ n c0 from s0)
  obtain ⟨_, Lv, Av', cv', hLv, rfl, hnv, hcmv, horv⟩ := (show SlR ρ ⟨tv, 0, none⟩ 1 c2 from s2)
  simp only at hL hLv
  rcases hor with ⟨h0, _⟩ | ⟨A, cap, sz, rfl, rfl, hcap⟩
  · omega
  rcases horv with ⟨h0, _⟩ | ⟨Av, capv, szv, rfl, rfl, hcapv⟩
  · omega
  obtain ⟨cur, a1, a2, a3, a4, a5, a6⟩ := own_row hh.toHR hb hL hf
  obtain ⟨curv, b1, b2, b3, b4, b5, b6⟩ := own_row hh.toHR hv hLv hvf
  subst a4
  subst b4
  have hfar : Av.block ≠ A.block := hh.far tv tg _ _ Av capv 4 A cap 4 hne hv hb rfl (.inl rfl) hLv hL
  have nf := insNew_flat i ((n - i) * 4) hf hvf
  have nl : (bx.take (i * 4) ++ vx ++ (bx.drop (i * 4)).take ((n - i) * 4)).length = (n + 1) * 4 := by
    simp only [List.length_append, List.length_take, List.length_drop, hvl]
    omega
  generalize hnew : bx.take (i * 4) ++ vx ++ (bx.drop (i * 4)).take ((n - i) * 4) = nx at nf nl ⊢
  have e1 : (cur.toList.drop A.off).take (i * 4) = bx.take (i * 4) := by
    rw [a6, List.take_take, Nat.min_eq_left (by omega)]
  have e2 : (cur.toList.drop (A.off + i * 4)).take ((n - i) * 4) = (bx.drop (i * 4)).take ((n - i) * 4) := by
    rw [a6, List.drop_take, List.take_take, List.drop_drop, Nat.min_eq_left (by omega)]
  have hvs : ∀ j v, vx[j]? = some v → w.cell? ⟨Av.block, Av.off + j, none⟩ = some v := fun j v hj => by
    rw [cell_of_row _ Av.block (Av.off + j) curv _ (0, 0) b2]
    rw [b6, List.getElem?_take] at hj
    split at hj
    · rw [List.getElem?_drop] at hj; simpa using hj
    · cases hj
  have hvw : Av.block < w.heap.size := (Array.getElem?_eq_some_iff.1 b2).1
  have hcl : cur.toList.length = cur.size := rfl
  simp only [Addr.add_zero'] at hcap ⊢
  rw [a1, b1]
  by_cases hroom : n + 1 ≤ c'
  · have hroom4 : (n + 1) * 4 ≤ c' * 4 := Nat.mul_le_mul_right _ hroom
    refine Calls.mono (ins_shift_C A.block A.off n c' i Av.block Av.off cv' vx w cur hi hroom (by unfold maxLen at hcm; omega) hfar a2 (by omega) hvl (by rw [e2]; exact fun v hv => flat_one hf v (List.mem_of_mem_drop (List.mem_of_mem_take hv))) hvs (flat_one hvf) curv.size (by simp [World.shape?, b2]) (by simp [World.frozen?, b2]) (by simp [World.frozen?, b2])) ?_
    rintro e w' ⟨rfl, rfl⟩
    have e3 : cur.toList.take (A.off + i * 4) = cur.toList.take A.off ++ bx.take (i * 4) := by rw [List.take_add, e1]
    rw [e2, e3]
    have e4 : cur.toList.take A.off ++ bx.take (i * 4) ++ vx ++ (bx.drop (i * 4)).take ((n - i) * 4) ++ cur.toList.drop (A.off + (n + 1) * 4) = cur.toList.take A.off ++ nx ++ cur.toList.drop (A.off + (n + 1) * 4) := by
      rw [← hnew]; simp only [List.append_assoc]
    rw [e4]
    have tl : (cur.toList.take A.off).length = A.off := by rw [List.length_take, hcl]; omega
    obtain ⟨row, hrow⟩ : ∃ row : Array Value, row = (cur.toList.take A.off ++ nx ++ cur.toList.drop (A.off + (n + 1) * 4)).toArray := ⟨_, rfl⟩
    have rl : row.size = A.off + cap := by
      rw [hrow]
      simp only [List.size_toArray, List.length_append, tl, nl, List.length_drop, hcl]
      omega
    have rg : ∀ j v, nx[j]? = some v → row[A.off + j]? = some v := fun j v hj => by
      have hjl : j < nx.length := (List.getElem?_eq_some_iff.1 hj).1
      rw [hrow]
      simp only [List.getElem?_toArray, List.append_assoc]
      rw [List.getElem?_append_right (by omega), tl, show A.off + j - A.off = j by omega, List.getElem?_append_left hjl]
      exact hj
    rw [← hrow]
    have hgd : w.drew.heap[A.block]? = some (.cells cur 67 (0, 0)) := a2
    have hnewrow := setRow_heap w.drew A.block cur row _ (0, 0) hgd
    obtain ⟨g1, g2⟩ := regrow_sound hh.toHR hb rfl hL (w' := w.drew.setRow A.block row) rfl rfl rfl (by simp) (fun k hk hne => setRow_other w.drew A.block k _ (hne A cap 4 rfl)) (b' := ⟨nx, true, 67, 4⟩) (L := .real A cap 4) rfl
      (by
        refine ⟨by rw [a1], rfl, by simp only [nl]; omega, fun j v hv => ⟨v, ?_, (CR_flat (List.all_eq_true.1 nf v (List.mem_of_getElem? hv))).2 rfl⟩, fun _ => ⟨row, hnewrow, rl⟩⟩
        rw [a1, addr_addo, cell_of_row _ A.block (A.off + j) row _ (0, 0) hnewrow]
        exact rg j v hv)
      (by rintro A1 cap1 sz1 e1; cases e1; exact .inr ⟨A, cap, 4, rfl, rfl⟩)
    refine ⟨_, _, rfl, ?_, g1, g2⟩
    rw [← a1]
    exact sl_mk (upd_new (L := .real A cap 4)) hroom hcm (by omega) _
  · have hc : c' = n := by omega
    refine Calls.mono (ins_grow_C A.block A.off n c' i Av.block Av.off cv' vx w cur hi hnc (by omega) hn a2 (by omega) hvl hvw (by rw [e2]; exact fun v hv => flat_one hf v (List.mem_of_mem_drop (List.mem_of_mem_take hv))) hvs (flat_one hvf)) ?_
    rintro e w' ⟨G, row0, row1, row, rfl, g1, g2, g3, g4, rfl⟩
    rw [e1, e2, hnew] at g4
    have hN1 : (w.alloc (.cells row0 67)).drew.heap[w.heap.size]? = some (.cells row0 67 (0, 0)) := alloc_new w _
    have hN2 := setRow_heap _ w.heap.size row0 row1 _ (0, 0) hN1
    have hN3 := setRow_heap (((w.alloc (.cells row0 67)).drew.setRow w.heap.size row1).drew) w.heap.size row1 row _ (0, 0) hN2
    have rg : ∀ j v, nx[j]? = some v → row[j]? = some v := fun j v hj => by
      have hjl : j < nx.length := (List.getElem?_eq_some_iff.1 hj).1
      rw [← g4, List.getElem?_take] at hj
      split at hj
      · simpa using hj
      · cases hj
    obtain ⟨k1, k2⟩ := regrow_sound hh.toHR hb rfl hL (w' := ((w.alloc (.cells row0 67)).drew.setRow w.heap.size row1).drew.setRow w.heap.size row) rfl rfl rfl (by simp [World.drew]) (fun k hk hne => by
        rw [setRow_other _ w.heap.size k _ (by omega)]
        show ((w.alloc (.cells row0 67)).drew.setRow w.heap.size row1).heap[k]? = _
        rw [setRow_other _ w.heap.size k _ (by omega)]
        exact alloc_old w _ k hk) (b' := ⟨nx, true, 67, 4⟩) (L := .real ⟨w.heap.size, 0, none⟩ (G * 4) 4) rfl
      (by
        refine ⟨rfl, rfl, by simp only [nl]; omega, fun j v hv => ⟨v, ?_, (CR_flat (List.all_eq_true.1 nf v (List.mem_of_getElem? hv))).2 rfl⟩, fun _ => ⟨row, hN3, by simp only [Nat.zero_add]; exact g3⟩⟩
        rw [addr_add, cell_of_row _ w.heap.size j row _ (0, 0) hN3]
        exact rg j v hv)
      (by rintro A1 cap1 sz1 e1; cases e1; exact .inl (Nat.le_refl _))
    refine ⟨_, _, rfl, ?_, k1, k2⟩
    exact sl_mk upd_new g1 g2 rfl _
end Go.Proofs.YthnnbgggfpempaaDoor
/- slices.DeleteFunc at alarms, the closures of taking a reading, and slices.Insert at the end. -/
namespace Go.Proofs.YthnnbgggfpempaaDoor
open Go.Am
set_option linter.unusedVariables false
set_option linter.unusedSimpArgs false
set_option maxRecDepth 100000
set_option maxHeartbeats 4000000
theorem indexFuncAr_A (l : List Ar) (p : Ar → Bool) (g : Nat) (cap : Array Value) (r : Int) (hr : Found rD p l r) (hl : l.length ≤ 1048577) (c : Nat) (H : Heap) (t : Nat) (hS : Sl arE H t l) (hc : L2 (WMP (sg H.length []) H.length) cap.toList cap.toList)
    (hp : ∀ b : Ar, AFunC Tryd.prog g (.agg #[.int .i64 b.1, .int .i64 b.2.1, .int .i64 b.2.2.1, .int .i64 b.2.2.2] :: cap.toList) H (.bool (p b)) H) :
    AFunC Tryd.prog 129 [.slice (some ⟨t, 0, none⟩) l.length c, .func (.func g) #[] cap] H (.int .i64 r) H := by
  refine AFunC.of_body Tryd.func129 (by kernel_rfl) rfl (by kernel_rfl) (by simp [Tryd.ntmps129]) ?_
  have ht := hS.lt
  have cs := fun k hk => hS.cells (s := 4) (fun _ => rfl) rD k hk
  simp only [arE] at cs
  simp -dsimp -implicitDefEqProofs (disch := omega) [go_sem, -List.getD_eq_getElem?_getD, ite_yes]
  refine ALoop.intro (ι := Nat) (fun k => k ≤ l.length ∧ findTo rD p l k) (fun k => [(0, .slice (some ⟨t, 0, none⟩) l.length c), (1, .func (.func g) #[] cap), (7, .int .i64 l.length), (8, .int .i64 k)]) (fun _ => H) (fun k => l.length - k) 0 ⟨by omega, fun i hi => by omega⟩ ?_ ?_
  · exact weakS_same (by simp -dsimp -implicitDefEqProofs (disch := omega) [go_sem, -List.getD_eq_getElem?_getD, ite_yes, ht]; simpa using hc)
  · rintro k ⟨hk, hf⟩
    by_cases hlt : k < l.length
    · simp -dsimp -implicitDefEqProofs (disch := omega) [go_sem, -List.getD_eq_getElem?_getD, ite_yes, hlt, cs]
      refine ACall.of (hp (l.getD k rD)) ?_
      simp -dsimp -implicitDefEqProofs (disch := omega) [go_sem, -List.getD_eq_getElem?_getD, ite_yes]
      refine AIf.of (fun h => ?_) (fun h => ?_)
      · simp -dsimp -implicitDefEqProofs (disch := omega) [go_sem, -List.getD_eq_getElem?_getD, ite_yes]
        have := found_uniq hr (.yes k hlt h hf)
        exact fin_flat0 rfl (by rw [this])
      · simp -dsimp -implicitDefEqProofs (disch := omega) [go_sem, -List.getD_eq_getElem?_getD, ite_yes]
        exact LoopEnd.of (k + 1) ⟨by omega, hf.next h⟩ (by omega) (weakS_same (by simp -dsimp -implicitDefEqProofs (disch := omega) [go_sem, -List.getD_eq_getElem?_getD, ite_yes, ht]; simpa using hc))
    · simp -dsimp -implicitDefEqProofs (disch := omega) [go_sem, -List.getD_eq_getElem?_getD, ite_yes, hlt]
      obtain rfl : k = l.length := by omega
      have := found_uniq hr (.no hf)
      exact fin_flat0 rfl (by rw [this])
theorem takeF1_A (r : Ar) (node : Int) (H : Heap) (t : Nat) (h : aCells H ⟨t, 1, none⟩ 1 = some [.int .i64 node]) : AFunC Tryd.prog 130 [.agg #[.int .i64 r.1, .int .i64 r.2.1, .int .i64 r.2.2.1, .int .i64 r.2.2.2], .pointer (some ⟨t, 0, none⟩)] H (.bool (atRule node r)) H := by
  refine AFunC.of_body Tryd.func130 (by kernel_rfl) rfl (by kernel_rfl) (by simp [Tryd.ntmps130]) ?_
  have ht : t < H.length := by
    unfold aCells at h
    rw [if_pos rfl] at h
    cases hb : H.get t with
    | none => simp only [hb] at h; cases h
    | some b => exact Heap.get_lt hb
  simp -dsimp -implicitDefEqProofs (disch := omega) [go_sem, -List.getD_eq_getElem?_getD, ite_yes, h, ht]
  exact fin_flat rfl rfl
theorem takeF2_A (r : Al) (node : Int) (H : Heap) (t : Nat) (h : aCells H ⟨t, 1, none⟩ 1 = some [.int .i64 node]) : AFunC Tryd.prog 133 [.agg #[.int .i64 r.1, .int .i64 r.2.1, .int .i64 r.2.2.1, .bool r.2.2.2], .pointer (some ⟨t, 0, none⟩)] H (.bool (atNode node r)) H := by
  refine AFunC.of_body Tryd.func133 (by kernel_rfl) rfl (by kernel_rfl) (by simp [Tryd.ntmps133]) ?_
  have ht : t < H.length := by
    unfold aCells at h
    rw [if_pos rfl] at h
    cases hb : H.get t with
    | none => simp only [hb] at h; cases h
    | some b => exact Heap.get_lt hb
  simp -dsimp -implicitDefEqProofs (disch := omega) [go_sem, -List.getD_eq_getElem?_getD, ite_yes, h, ht]
  exact fin_flat rfl rfl
theorem deleteAl_no (l : List Al) (p : Al → Bool) (g : Nat) (cap : Array Value) (hr : Found aD p l (-1)) (hl : l.length ≤ 1048577) (c : Nat) (H : Heap) (t : Nat) (hS : Sl alE H t l) (hc : L2 (WMP (sg H.length []) H.length) cap.toList cap.toList)
    (hp : ∀ b : Al, AFunC Tryd.prog g (.agg #[.int .i64 b.1, .int .i64 b.2.1, .int .i64 b.2.2.1, .bool b.2.2.2] :: cap.toList) H (.bool (p b)) H) :
    AFunC Tryd.prog 132 [.slice (some ⟨t, 0, none⟩) l.length c, .func (.func g) #[] cap] H (.slice (some ⟨t, 0, none⟩) l.length c) H := by
  refine AFunC.of_body Tryd.func132 (by kernel_rfl) rfl (by kernel_rfl) (by simp [Tryd.ntmps132]) ?_
  have ht := hS.lt
  simp -dsimp -implicitDefEqProofs (disch := omega) [go_sem, -List.getD_eq_getElem?_getD, ite_yes, ht]
  refine ACall.of (indexFuncAl_A l p g cap (-1) hr hl c _ t hS hc hp) ?_
  simp -dsimp -implicitDefEqProofs (disch := omega) [go_sem, -List.getD_eq_getElem?_getD, ite_yes, ht]
  have := fin_list (H := H) (L := []) (L' := []) [] rfl (v := .slice (some ⟨t, 0, none⟩) l.length c) (vf := .slice (some ⟨t, 0, none⟩) l.length c) trivial (by simp -dsimp -implicitDefEqProofs (disch := omega) [go_sem, -List.getD_eq_getElem?_getD, ite_yes, ht])
  simpa using this
/-- the list within the deletion -/
def delL (l : List Al) (i j : Nat) : List Al := (l.take i ++ (l.drop (i + 1)).take (j - 1 - i)) ++ l.drop (j - 1)
theorem delL_cell (l : List Al) {i j : Nat} (h1 : i < j) (h2 : j < l.length) : (delL l i j).getD j aD = l.getD j aD ∧ (delL l i j).length = l.length := by
  have hA : (l.take i ++ (l.drop (i + 1)).take (j - 1 - i)).length = j - 1 := by
    rw [List.length_append, List.length_take, List.length_take, List.length_drop]; omega
  unfold delL
  refine ⟨?_, by rw [List.length_append, hA, List.length_drop]; omega⟩
  rw [List.getD_eq_getElem?_getD, List.getElem?_append_right (by omega), hA, List.getElem?_drop, ← List.getD_eq_getElem?_getD]
  congr 1; omega
theorem delL_put (l : List Al) {i j : Nat} (h1 : i < j) (h2 : j < l.length) :
    ((delL l i j).flatMap alE).take ((j - 1) * 4) ++ (alE (l.getD j aD) ++ ((delL l i j).flatMap alE).drop ((j - 1) * 4 + 4)) = (delL l i (j + 1)).flatMap alE := by
  have hA : (l.take i ++ (l.drop (i + 1)).take (j - 1 - i)).length = j - 1 := by
    rw [List.length_append, List.length_take, List.length_take, List.length_drop]; omega
  have e1 : delL l i j = (l.take i ++ (l.drop (i + 1)).take (j - 1 - i)) ++ l.drop (j - 1) := rfl
  have hlen := (delL_cell l h1 h2).2
  rw [← set_flat_eq (f := alE) (s := 4) (l := delL l i j) (i := j - 1) (fun _ => rfl) (l.getD j aD) (by omega)]
  congr 1
  rw [e1, List.set_append_right _ _ (by omega), hA, Nat.sub_self, List.drop_eq_getElem_cons (show j - 1 < l.length by omega), List.set_cons_zero]
  unfold delL
  rw [show j + 1 - 1 = j by omega, show j - 1 + 1 = j by omega]
  have e2 : (l.drop (i + 1)).take (j - i) = (l.drop (i + 1)).take (j - 1 - i) ++ [l.getD j aD] := by
    have hlt : j - 1 - i < (l.drop (i + 1)).length := by rw [List.length_drop]; omega
    rw [show j - i = j - 1 - i + 1 by omega, List.take_succ_eq_append_getElem hlt]
    congr 2
    rw [List.getElem_drop, getD_el h2]
    congr 1; omega
  rw [e2]
  simp only [List.append_assoc, List.singleton_append]
theorem delL_start (l : List Al) {i : Nat} (h : i < l.length) : delL l i (i + 1) = l := by
  unfold delL
  rw [show i + 1 - 1 - i = 0 by omega, List.take_zero, List.append_nil, Nat.add_sub_cancel, List.take_append_drop]
def zAl : List Value := [.int .i64 0, .int .i64 0, .int .i64 0, .bool false]
theorem delL_end (l : List Al) {i : Nat} (h : i < l.length) : ((delL l i l.length).flatMap alE).take ((l.length - 1) * 4) = (l.take i ++ l.drop (i + 1)).flatMap alE ∧ ((delL l i l.length).flatMap alE).length = l.length * 4 := by
  have hA : (l.take i ++ (l.drop (i + 1)).take (l.length - 1 - i)).length = l.length - 1 := by
    rw [List.length_append, List.length_take, List.length_take, List.length_drop]; omega
  have e : (l.drop (i + 1)).take (l.length - 1 - i) = l.drop (i + 1) := List.take_of_length_le (by rw [List.length_drop]; omega)
  constructor
  · unfold delL
    rw [List.flatMap_append, List.take_append_of_le_length (by rw [alE_length, hA]; omega), List.take_of_length_le (by rw [alE_length, hA]; omega), e]
  · rw [alE_length]
    congr 1
    unfold delL
    rw [List.length_append, hA, List.length_drop]; omega
theorem deleteAl_yes (l : List Al) (p : Al → Bool) (g : Nat) (cap : Array Value) (i : Nat) (hi : i < l.length) (hr : Found aD p l i) (hno : ∀ j, i < j → j < l.length → p (l.getD j aD) = false) (hl : l.length ≤ 1048577) (c e : Nat) (H : Heap) (t : Nat)
    (he : e = 67) (hb : H.get t = some ⟨l.flatMap alE, true, e, 4⟩) (hc : L2 (WMP (sg H.length []) H.length) cap.toList cap.toList)
    (hp0 : ∀ b : Al, AFunC Tryd.prog g (.agg #[.int .i64 b.1, .int .i64 b.2.1, .int .i64 b.2.2.1, .bool b.2.2.2] :: cap.toList) H (.bool (p b)) H)
    (hp : ∀ (b : Al) (x : Option Blk) (L : Heap), AFunC Tryd.prog g (.agg #[.int .i64 b.1, .int .i64 b.2.1, .int .i64 b.2.2.1, .bool b.2.2.2] :: cap.toList) (H.set t x ++ L) (.bool (p b)) (H.set t x ++ L)) :
    AFunC Tryd.prog 132 [.slice (some ⟨t, 0, none⟩) l.length c, .func (.func g) #[] cap] H (.slice (some ⟨t, 0, none⟩) (l.length - 1) (l.length - 1)) (H.set t (some ⟨(l.take i ++ l.drop (i + 1)).flatMap alE ++ zAl, true, e, 4⟩)) := by
  refine AFunC.of_body Tryd.func132 (by kernel_rfl) rfl (by kernel_rfl) (by simp [Tryd.ntmps132]) ?_
  have ht := Heap.get_lt hb
  have gs := fun x => Heap.get_set_self (H := H) ht (x := x)
  have gL := fun (x : Option Blk) (L : Heap) => (Heap.get_append_left (H := H.set t x) (L := L) (t := t) (by simpa using ht)).trans (gs x)
  have bz := fun (xs : List Value) => show blkSz (H.set t (some ⟨xs, true, e, 4⟩)) t = some 4 by unfold blkSz; rw [gs]
  have si := fun (x : Option Blk) (L : Heap) (y : Option Blk) => set_into (H := H) (L := L) (x := x) ht (y := y)
  have hi1 : ¬ (i : Int) = -1 := by omega
  simp -dsimp -implicitDefEqProofs (disch := omega) [go_sem, -List.getD_eq_getElem?_getD, ite_yes, ht]
  refine ACall.of (indexFuncAl_A l p g cap i hr hl c _ t ⟨_, [], hb, (List.append_nil _).symm⟩ hc hp0) ?_
  simp -dsimp -implicitDefEqProofs (disch := omega) [go_sem, -List.getD_eq_getElem?_getD, ite_yes, ht, hi1]
  refine ALoop.intro (ι := Nat) (fun j => i < j ∧ j ≤ l.length) (fun j => [(0, .slice (some ⟨t, 0, none⟩) l.length c), (1, .func (.func g) #[] cap), (5, .int .i64 (j - 1 : Nat)), (6, .int .i64 j)])
    (fun j => H.set t (some ⟨(delL l i j).flatMap alE, true, e, 4⟩)) (fun j => l.length - j) (i + 1) (by omega) ?_ ?_
  · refine weakS_set ht (alE_flat _) rfl ?_ (by simp -dsimp -implicitDefEqProofs (disch := omega) [go_sem, -List.getD_eq_getElem?_getD, ite_yes, ht]; simpa using hc)
    rw [delL_start l hi]; exact (Heap.set_self hb).symm
  rintro j ⟨hj1, hj2⟩
  by_cases hlt : j < l.length
  · have hlti : (j : Int) < (l.length : Int) := by omega
    obtain ⟨d1, d2⟩ := delL_cell l hj1 hlt
    have hput := delL_put l hj1 hlt
    have fc := flatMap_cells alE 4 (fun _ => rfl) aD (delL l i j) j (by omega)
    have dl := alE_length (delL l i j)
    rw [d1] at fc
    rw [d2] at dl
    have hpj := hno j hj1 hlt
    generalize l.getD j aD = x at *
    simp only [alE] at fc hput
    have hj4 : j * 4 + 4 ≤ l.length * 4 := by omega
    have hjm : j - 1 < l.length := by omega
    have hj5 : (j - 1) * 4 + 4 ≤ l.length * 4 := by omega
    have ej : ((j - 1 : Nat) : Int) + 1 = (j : Int) := by omega
    obtain ⟨M, hM⟩ : ∃ M, (delL l i j).flatMap alE = M := ⟨_, rfl⟩
    rw [hM] at fc hput dl ⊢
    have ca : aCells (H.set t (some ⟨M, true, e, 4⟩)) ⟨t, j * 4, none⟩ 4 = some [.int .i64 x.1, .int .i64 x.2.1, .int .i64 x.2.2.1, .bool x.2.2.2] := by
      rw [aCells_eq, gs, aC1]
      simp only [dl]
      rw [if_pos (by omega), fc]
    simp -dsimp -implicitDefEqProofs (disch := omega) [go_sem, -List.getD_eq_getElem?_getD, ite_yes, ht, hlti, hlt, ca]
    refine ACall.of (hp x _ _) ?_
    rw [hpj]
    simp -dsimp -implicitDefEqProofs (disch := omega) [go_sem, -List.getD_eq_getElem?_getD, ite_yes, ht, hlti, hlt, gs, gL, si, fc, dl, hj4, hjm, hj5, hput, ej]
    exact LoopEnd.of (j + 1) (by omega) (by omega) (weakS_setA (b := ⟨(delL l i (j + 1)).flatMap alE, true, e, 4⟩) _ ht (L2.refl fun x hx => WM_flat (List.all_eq_true.1 (alE_flat _) x hx)) rfl (by rw [← hput]; rfl) (by simp -dsimp -implicitDefEqProofs (disch := omega) [go_sem, -List.getD_eq_getElem?_getD, ite_yes, ht]; simpa using hc))
  · have hlti : ¬ (j : Int) < (l.length : Int) := by omega
    obtain rfl : j = l.length := by omega
    obtain ⟨d1, d2⟩ := delL_end l hi
    obtain ⟨M, hM⟩ : ∃ M, (delL l i l.length).flatMap alE = M := ⟨_, rfl⟩
    rw [hM] at d1 d2 ⊢
    simp -dsimp -implicitDefEqProofs (disch := omega) [go_sem, -List.getD_eq_getElem?_getD, ite_yes, ht, hlti, gs, bz, d2]
    have e1 : l.length - (l.length - 1) = 1 := by omega
    have e2 : List.drop ((l.length - 1) * 4 + 1 * 4) M = [] := List.drop_of_length_le (by omega)
    have zf : ((l.take i ++ l.drop (i + 1)).flatMap alE ++ zAl).all flat = true := by rw [List.all_append, alE_flat]; rfl
    refine ⟨by omega, ?_⟩
    rw [e1, e2, d1, ← List.append_assoc, ← List.flatMap_append]
    exact fin_setA (b := ⟨(l.take i ++ l.drop (i + 1)).flatMap alE ++ zAl, true, e, 4⟩) [] ht (L2.refl fun x hx => WM_flat (List.all_eq_true.1 zf x hx)) (by simp) (by simp [zAl]) (by simp -dsimp -implicitDefEqProofs (disch := omega) [go_sem, -List.getD_eq_getElem?_getD, ite_yes, ht])
end Go.Proofs.YthnnbgggfpempaaDoor
/- slices.Insert at alarms, at the end. -/
namespace Go.Proofs.YthnnbgggfpempaaDoor
open Go.Am
set_option linter.unusedVariables false
set_option linter.unusedSimpArgs false
set_option maxRecDepth 100000
set_option maxHeartbeats 4000000
theorem Weak.under {H H' Hf : Heap} {σ : Sig} {t : Nat} (hw : Weak (H.set t none) σ H' Hf) : Weak H σ H' Hf where
  len := by simpa using hw.len
  fix_ := fun s hs => hw.fix_ s (by simpa using hs)
  blk := fun s b' hb => by
    rcases hw.blk s b' hb with ⟨h1, h2, h3⟩ | h | h
    · by_cases e : s = t
      · subst e
        rw [Heap.get_set_self (by simpa using h1)] at h3
        cases h3
      · exact .inl ⟨by simpa using h1, h2, by rwa [Heap.get_set_ne e] at h3⟩
    · exact .inr (.inl h)
    · exact .inr (.inr h)
  inj := hw.inj
theorem fin_none {H L L' : Heap} {t : Nat} {v vf : Value} (js : List (Option Nat)) (hj : jsOk js = true) (h : wkL (sg H.length js) (H.length + L'.length) L L' js)
    (hv : WS (sg H.length js) (H.length + L'.length) v vf) : WeakV H v (H.set t none ++ L') vf (H.set t none ++ L) := by
  have e : (H.set t none).length = H.length := by simp
  have k := weak_mk (H := H.set t none) (L := L) (L' := L') js hj (by rw [e]; exact h)
  rw [e] at k
  exact ⟨_, Weak.under k, by simpa using hv⟩
theorem insEnd_new {H : Heap} {tg tv n c vc : Nat} {bx vx : List Value} (hn : n ≤ 1000000000)
    (hb : H.get tg = some ⟨bx, true, 67, 4⟩) (hfit : bx.length = n * 4) (hf : bx.all flat = true)
    (hv : H.get tv = some ⟨vx, true, 67, 4⟩) (hvl : vx.length = 4) (hvf : vx.all flat = true) (hne : tv ≠ tg) :
    AFunC Tryd.prog 134 [.slice (some ⟨tg, 0, none⟩) n c, .int .i64 n, .slice (some ⟨tv, 0, none⟩) 1 vc] H
      (.slice (some ⟨H.length, 0, none⟩) (n + 1) (n + 1)) (H.set tg none ++ [some ⟨bx ++ vx, true, 67, 4⟩]) := by
  refine AFunC.of_body Tryd.func134 (by kernel_rfl) rfl (by kernel_rfl) (by simp [Tryd.ntmps134]) ?_
  have ht := Heap.get_lt hb
  have htv := Heap.get_lt hv
  have bz : blkSz H tg = some 4 := by unfold blkSz; rw [hb]
  have ca : aCells H ⟨tv, 0, none⟩ 4 = some vx := by
    rw [aCells_eq, hv, aC1]
    simp only [hvl]
    rw [if_pos (by omega), List.drop_zero, List.take_of_length_le (by omega)]
  have nf : (bx ++ vx).all flat = true := by rw [List.all_append, hf, hvf]; rfl
  simp -dsimp -implicitDefEqProofs (disch := omega) [go_sem, -List.getD_eq_getElem?_getD, ite_yes, ht, htv, hb, hv, bz, ca, hfit]
  refine ⟨by omega, fin_none [some 0] rfl ?_ (by simp -dsimp -implicitDefEqProofs (disch := omega) [go_sem, -List.getD_eq_getElem?_getD, ite_yes])⟩
  simp -dsimp -implicitDefEqProofs (disch := omega) [go_sem, -List.getD_eq_getElem?_getD, ite_yes]
  exact .inl ⟨rfl, nf⟩
theorem insEnd_room {H : Heap} {tg tv n c vc : Nat} {bx vx : List Value} (hn : n ≤ 1000000000)
    (hb : H.get tg = some ⟨bx, true, 67, 4⟩) (hfit : bx.length = (n + 1) * 4) (hf : bx.all flat = true)
    (hv : H.get tv = some ⟨vx, true, 67, 4⟩) (hvl : vx.length = 4) (hvf : vx.all flat = true) (hne : tv ≠ tg) :
    AFunC Tryd.prog 134 [.slice (some ⟨tg, 0, none⟩) n c, .int .i64 n, .slice (some ⟨tv, 0, none⟩) 1 vc] H
      (.slice (some ⟨tg, 0, none⟩) (n + 1) (n + 1)) (H.set tg (some ⟨bx.take (n * 4) ++ vx, true, 67, 4⟩)) := by
  refine AFunC.of_body Tryd.func134 (by kernel_rfl) rfl (by kernel_rfl) (by simp [Tryd.ntmps134]) ?_
  have ht := Heap.get_lt hb
  have htv := Heap.get_lt hv
  have bz : blkSz H tg = some 4 := by unfold blkSz; rw [hb]
  have ca : aCells H ⟨tv, 0, none⟩ 4 = some vx := by
    rw [aCells_eq, hv, aC1]
    simp only [hvl]
    rw [if_pos (by omega), List.drop_zero, List.take_of_length_le (by omega)]
  have nf : (bx.take (n * 4) ++ vx).all flat = true := by
    rw [List.all_append, hvf, Bool.and_true, List.all_eq_true]
    exact fun x hx => List.all_eq_true.1 hf x (List.mem_of_mem_take hx)
  have hd : bx.drop ((n + 1) * 4) = [] := List.drop_of_length_le (by omega)
  have hno : ¬ (n + 1) * 4 = n * 4 := by omega
  simp -dsimp -implicitDefEqProofs (disch := omega) [go_sem, -List.getD_eq_getElem?_getD, ite_yes, ht, htv, hb, hv, bz, ca, hfit, hno, hd]
  exact fin_setA (b := ⟨bx.take (n * 4) ++ vx, true, 67, 4⟩) [] ht (L2.refl fun x hx => WM_flat (List.all_eq_true.1 nf x hx)) rfl (by simp) (by simp -dsimp -implicitDefEqProofs (disch := omega) [go_sem, -List.getD_eq_getElem?_getD, ite_yes, ht])
end Go.Proofs.YthnnbgggfpempaaDoor
/- impl.takeReading. -/
namespace Go.Proofs.YthnnbgggfpempaaDoor
open Go.Am
set_option linter.unusedVariables false
set_option linter.unusedSimpArgs false
set_option maxRecDepth 100000
set_option maxHeartbeats 4000000
theorem al_take (o : List Al) (p : Nat) (z : List Value) (hp : p ≤ o.length) : (o.flatMap alE ++ z).take (p * 4) = (o.take p).flatMap alE ∧ ((o.flatMap alE ++ z).drop (p * 4)).take ((o.length - p) * 4) = (o.drop p).flatMap alE := by
  have tl : ((o.take p).flatMap alE).length = p * 4 := by rw [alE_length, List.length_take]; congr 1; omega
  have dl : ((o.drop p).flatMap alE).length = (o.length - p) * 4 := by rw [alE_length, List.length_drop]
  have e : o.flatMap alE = (o.take p).flatMap alE ++ (o.drop p).flatMap alE := by rw [← List.flatMap_append, List.take_append_drop]
  rw [e, List.append_assoc]
  constructor
  · rw [← tl, List.take_left]
  · rw [← tl, List.drop_left, ← dl, List.take_left]
theorem WL_pre {σ : Sig} {n : Nat} {xs' xs : List Value} (hf : xs'.all flat = true) (h : xs.take xs'.length = xs') : WL σ n xs' xs :=
  .inr (by rw [h]; exact L2.refl fun x hx => WM_flat (List.all_eq_true.1 hf x hx))
theorem WL_z {σ : Sig} {n : Nat} (l : List Al) (z : List Value) : WL σ n (l.flatMap alE) (l.flatMap alE ++ z) := WL_pre (alE_flat l) List.take_left
theorem WL_eq {σ : Sig} {n : Nat} {l : List Al} {xs : List Value} (h : l.flatMap alE = xs) : WL σ n (l.flatMap alE) xs := .inl ⟨h, by rw [← h]; exact alE_flat l⟩
theorem al_zf (o : List Al) : (o.flatMap alE ++ zAl).all flat = true := by rw [List.all_append, alE_flat]; rfl
theorem al_nf (o : List Al) : (o.flatMap alE ++ []).all flat = true := by rw [List.append_nil, alE_flat]
theorem rule_ok {rs : List Ar} (h : goodR rs = true) {k : Nat} (hk : k < rs.length) : ruleOk (rs.getD k rD) := of_decide_eq_true (asc_at h k hk).1
theorem al_kind (l : List Al) {p : Nat} (hp : p < l.length) : List.take 1 (List.drop (p * 4 + 1) (l.flatMap alE)) = [.int .i64 (l.getD p aD).2.1] := by
  have h2 := congrArg (fun z => List.take 1 (List.drop 1 z)) (flatMap_cells alE 4 (fun _ => rfl) aD l p hp)
  simp only [List.drop_take, List.drop_drop, List.take_take] at h2
  exact h2
theorem al_node (l : List Al) (z : List Value) {p : Nat} (hp : p < l.length) : List.take 1 (List.drop (p * 4) (l.flatMap alE ++ z)) = [.int .i64 (l.getD p aD).1] := by
  have h2 := congrArg (fun z => List.take 1 z) (flatMap_cells alE 4 (fun _ => rfl) aD l p hp)
  simp only [List.take_take] at h2
  have hl := alE_length l
  rw [List.drop_append_of_le_length (by omega), List.take_append_of_le_length (by rw [List.length_drop]; omega)]
  exact h2
theorem offL_has {l : List Al} {node : Int} (h : hasN l node = true) : offL l node = l.take (lowN node l) ++ l.drop (lowN node l + 1) := by
  unfold offL nextN; rw [if_pos h]
theorem offL_no {l : List Al} {node : Int} (h : ¬ hasN l node = true) : offL l node = l := by
  unfold offL nextN; rw [if_neg h, Nat.add_zero, List.take_append_drop]
theorem off_len {l : List Al} {node : Int} (h : hasN l node = true) : l.length - 1 = (offL l node).length := by
  have := (of_decide_eq_true h).1
  rw [offL_length]; unfold nextN; rw [if_pos h]; omega
def bxR (r : Rg) : List Value := [.int .i64 r.1, .int .i64 r.2.1, .int .i64 r.2.2]
theorem iTake_A (rs : List Ar) (l : List Al) (hour node value : Int) (hrl : rs.length ≤ 1048577) (hg : goodR rs = true) (ho : Ord l) (hl8 : l.length ≤ 8) (c0 c1 : Nat) (H : Heap) (t0 t1 : Nat) (hR : Sl arE H t0 rs) (hS : Sl alE H t1 l) :
    AFunC Tryd.prog 98 [.slice (some ⟨t0, 0, none⟩) rs.length c0, .slice (some ⟨t1, 0, none⟩) l.length c1, .agg #[.int .i64 hour, .int .i64 node, .int .i64 value]] H
      (.slice (some ⟨H.length, 0, none⟩) (takeL rs l (hour, node, value)).length (takeL rs l (hour, node, value)).length) (H ++ [some ⟨(takeL rs l (hour, node, value)).flatMap alE, true, 67, 4⟩]) := by
  refine AFunC.of_body Tryd.func98 (by kernel_rfl) rfl (by kernel_rfl) (by simp [Tryd.ntmps98]) ?_
  have ht0 := hR.lt
  have ht1 := hS.lt
  have al := hS.all (s := 4) (fun _ => rfl)
  have lf := alE_length l
  have cs := fun k hk => hR.cells (s := 4) (fun _ => rfl) rD k hk
  simp only [arE] at cs
  have rf := ruleI_found rs node
  have rl := ruleI_lt rs node
  have fl := found_low ho node
  simp -dsimp -implicitDefEqProofs (disch := omega) [go_sem, -List.getD_eq_getElem?_getD, ite_yes, ht0, ht1, al, lf]
  refine ⟨by omega, ?_⟩
  refine ACall.of (indexFuncAr_A rs (atRule node) 130 #[.pointer (some ⟨H.length, 0, none⟩)] _ rf hrl c0 _ t0 hR.app (by simp [L2, WMP, sg]) (fun b => takeF1_A b node _ _ (by rw [aCells_eq, Heap.get_append_zero]; rfl))) ?_
  by_cases hneg : ruleI rs node < 0
  · have tk : takeL rs l (hour, node, value) = l := by unfold takeL; rw [if_pos hneg]
    rw [tk]
    simp -dsimp -implicitDefEqProofs (disch := omega) [go_sem, -List.getD_eq_getElem?_getD, ite_yes, hneg]
    refine fin_list [some 2] rfl ?_ (by simp -dsimp -implicitDefEqProofs (disch := omega) [go_sem, -List.getD_eq_getElem?_getD, ite_yes])
    simp -dsimp -implicitDefEqProofs (disch := omega) [go_sem, -List.getD_eq_getElem?_getD, ite_yes]
    exact .inl ⟨rfl, alE_flat _⟩
  obtain ⟨kr, hkr⟩ : ∃ k : Nat, ruleI rs node = (k : Int) := ⟨(ruleI rs node).toNat, by omega⟩
  have hkr2 : kr < rs.length := by omega
  have hkri : (kr : Int) < (rs.length : Int) := by omega
  have hkn : ¬ (kr : Int) < 0 := by omega
  have tk : takeL rs l (hour, node, value) = take1 (rs.getD kr rD) l (hour, node, value) := by unfold takeL; rw [if_neg hneg, hkr]; rfl
  have csr := cs kr hkr2
  have hok := rule_ok hg hkr2
  rw [hkr]
  clear rf rl cs hneg
  generalize rs.getD kr rD = rule at *
  have old := oldN_rng ho node
  have olt := fun k (hk : k < lowN node l) => offL_lt l node hk
  have oat := offL_at ho node
  have oll := offL_length l node
  have ple := lowN_le node l
  have ofl := alE_length (offL l node)
  simp -dsimp -implicitDefEqProofs (disch := omega) [go_sem, -List.getD_eq_getElem?_getD, ite_yes, hkn]
  refine ACall.of (alarmIndex_A l node _ fl (by omega) _ _ _ (Sl.nth 2 rfl rfl)) ?_
  by_cases hh : hasN l node = true
  · have hp := (of_decide_eq_true hh).1
    have hpi : (lowN node l : Int) < (l.length : Int) := by omega
    have hkd := al_kind l hp
    have e0 : oldN l node = (l.getD (lowN node l) aD).2.1 := by unfold oldN; rw [if_pos hh]
    have ofh := offL_has hh
    have oln := off_len hh
    have hno := fun j (h1 : lowN node l < j) (h2 : j < l.length) => (show atNode node (l.getD j aD) = false from decide_eq_false (by have := drop_gt ho node (k := j) (by unfold nextN; rw [if_pos hh]; omega) h2; omega))
    have hp4 : lowN node l * 4 + 1 + 1 ≤ l.length * 4 := by omega
    have same := take1_same (rule := rule) (r := (hour, node, value)) ho
    have off := take1_off (rule := rule) (l := l) (r := (hour, node, value))
    have nw := take1_new (rule := rule) (l := l) (r := (hour, node, value))
    simp only at same off nw
    rw [if_pos hh] at fl ⊢
    rw [← e0] at hkd
    have old1 := old.2.2 hh
    obtain ⟨K, hK⟩ : ∃ K, K = kindN rule (oldN l node) value := ⟨_, rfl⟩
    have C := fun H' => kindAfter_A rule (oldN l node) value hok H'
    rw [← hK] at same off nw C
    clear e0
    generalize oldN l node = old0 at *
    generalize lowN node l = p at *
    simp -dsimp -implicitDefEqProofs (disch := omega) [go_sem, -List.getD_eq_getElem?_getD, ite_yes, hp, hpi, hp4, lf, hkd]
    refine ADraw.quiet (by kernel_rfl) (by kernel_rfl) (by kernel_rfl) ?_
    simp -dsimp -implicitDefEqProofs (disch := omega) [go_sem, -List.getD_eq_getElem?_getD, ite_yes, hkr2, hkri, csr]
    refine ACallQ.of (C _) rfl ?_
    by_cases hsame : K = old0
    · rw [tk, same hsame]
      simp -dsimp -implicitDefEqProofs (disch := omega) [go_sem, -List.getD_eq_getElem?_getD, ite_yes, hsame]
      refine fin_list [some 2] rfl ?_ (by simp -dsimp -implicitDefEqProofs (disch := omega) [go_sem, -List.getD_eq_getElem?_getD, ite_yes])
      simp -dsimp -implicitDefEqProofs (disch := omega) [go_sem, -List.getD_eq_getElem?_getD, ite_yes]
      exact .inl ⟨rfl, alE_flat _⟩
    simp -dsimp -implicitDefEqProofs (disch := omega) [go_sem, -List.getD_eq_getElem?_getD, ite_yes, hsame]
    refine ACall.of (deleteAl_yes l (atNode node) 133 #[.pointer (some ⟨H.length, 0, none⟩)] p hp fl hno (by omega) _ _ _ _ rfl (by simp [Heap.get_append_right, Heap.get]) (by simp [L2, WMP, sg]) (fun b => takeF2_A b node _ _ (by rw [aCells_eq, Heap.get_append_zero]; rfl)) (fun b x L => takeF2_A b node _ _ (by rw [List.set_append_right _ _ (by omega), Nat.add_sub_cancel_left, List.append_assoc, aCells_eq, Heap.get_append_zero]; rfl))) ?_
    rw [← ofh, oln]
    generalize offL l node = o at *
    by_cases hz : K = 0
    · rw [tk, off hz]
      simp -dsimp -implicitDefEqProofs (disch := omega) [go_sem, -List.getD_eq_getElem?_getD, ite_yes, hz]
      refine fin_list [some 2] rfl ?_ (by simp -dsimp -implicitDefEqProofs (disch := omega) [go_sem, -List.getD_eq_getElem?_getD, ite_yes])
      simp -dsimp -implicitDefEqProofs (disch := omega) [go_sem, -List.getD_eq_getElem?_getD, ite_yes]
      exact WL_z _ _
    have tke := nw hsame hz
    rw [← tk] at tke
    have tkl : (takeL rs l (hour, node, value)).length = o.length + 1 := by rw [tke]; simp only [List.length_append, List.length_cons, List.length_take, List.length_drop]; omega
    simp -dsimp -implicitDefEqProofs (disch := omega) [go_sem, -List.getD_eq_getElem?_getD, ite_yes, hz]
    have zf := al_zf o
    refine ALoop.intro (ι := Nat) (fun k => k ≤ p) (fun k => [(5, .pointer (some ⟨H.length, 0, none⟩)), (7, .slice (some ⟨H.length + 1, 0, none⟩) o.length o.length), (11, .int .i64 K), (12, .int .i64 k)])
      (fun k => H ++ [some ⟨[.int .i64 hour, .int .i64 node, .int .i64 value], true, 59, 1⟩, some ⟨o.flatMap alE ++ zAl, true, 67, 4⟩]) (fun k => p - k) 0 (by omega) ?_ ?_
    · refine weakS_mk [some 0, some 2] rfl ?_ (by simp -dsimp -implicitDefEqProofs (disch := omega) [go_sem, -List.getD_eq_getElem?_getD, ite_yes])
      simp -dsimp -implicitDefEqProofs (disch := omega) [go_sem, -List.getD_eq_getElem?_getD, ite_yes]
      exact ⟨.inl ⟨rfl, rfl⟩, .inl ⟨by simp [zAl], by first | exact zf | exact alE_flat o⟩⟩
    intro k hk
    by_cases hlt : k < p
    · have c1 := olt k hlt
      have hko : k < o.length := by omega
      have hkoi : (k : Int) < (o.length : Int) := by omega
      have hk4 : k * 4 + 1 ≤ (o.flatMap alE ++ zAl).length := by rw [List.length_append, ofl]; omega
      have nc := al_node o zAl hko
      generalize hM : o.flatMap alE ++ zAl = M at hk4 nc ⊢
      simp -dsimp -implicitDefEqProofs (disch := omega) [go_sem, -List.getD_eq_getElem?_getD, ite_yes, hko, hkoi]
      refine ADraw.quiet (by kernel_rfl) (by kernel_rfl) (by kernel_rfl) ?_
      simp -dsimp -implicitDefEqProofs (disch := omega) [go_sem, -List.getD_eq_getElem?_getD, ite_yes, hko, hkoi, hk4, nc, c1]
      refine LoopEnd.of (k + 1) (by omega) (by omega) (weakS_mk [some 0, some 1] rfl ?_ (by simp -dsimp -implicitDefEqProofs (disch := omega) [go_sem, -List.getD_eq_getElem?_getD, ite_yes]))
      simp -dsimp -implicitDefEqProofs (disch := omega) [go_sem, -List.getD_eq_getElem?_getD, ite_yes]
      exact ⟨.inl ⟨rfl, rfl⟩, .inl ⟨rfl, hM ▸ zf⟩⟩
    obtain rfl : k = p := by omega
    have fin := fun (X : List Value) (hX : X = (takeL rs l (hour, node, value)).flatMap alE ++ []) => hX
    by_cases hko : k < o.length
    · have hkoi : (k : Int) < (o.length : Int) := by omega
      have c1 := oat hko
      have hk4 : k * 4 + 1 ≤ (o.flatMap alE ++ zAl).length := by rw [List.length_append, ofl]; omega
      have nc := al_node o zAl hko
      obtain ⟨t1, t2⟩ := al_take o k zAl (by omega)
      have mf : (o.flatMap alE ++ zAl).all flat = true := zf
      have ml : o.length * 4 ≤ (o.flatMap alE ++ zAl).length := by rw [List.length_append, ofl]; omega
      generalize hM : o.flatMap alE ++ zAl = M at hk4 nc t1 t2 mf ml ⊢
      simp -dsimp -implicitDefEqProofs (disch := omega) [go_sem, -List.getD_eq_getElem?_getD, ite_yes, hko, hkoi]
      refine ADraw.quiet (by kernel_rfl) (by kernel_rfl) (by kernel_rfl) ?_
      simp -dsimp -implicitDefEqProofs (disch := omega) [go_sem, -List.getD_eq_getElem?_getD, ite_yes, hko, hkoi, hk4, nc, c1]
      refine ACall.of (insert_A (bx := M) (vx := [.int .i64 node, .int .i64 K, .int .i64 hour, .bool false]) (by omega) hko (by simp [Heap.get_append_right, Heap.get]) (by omega) mf (by simp [Heap.get_append_right, Heap.get]) rfl rfl (by omega)) ?_
      rw [t1, t2]
      simp -dsimp -implicitDefEqProofs (disch := omega) [go_sem, -List.getD_eq_getElem?_getD, ite_yes]
      refine fin_list [some 3] rfl ?_ (by simp -dsimp -implicitDefEqProofs (disch := omega) [go_sem, -List.getD_eq_getElem?_getD, ite_yes, tkl])
      simp -dsimp -implicitDefEqProofs (disch := omega) [go_sem, -List.getD_eq_getElem?_getD, ite_yes]
      exact WL_eq (by rw [tke]; simp [alE])
    · have hkoi : ¬ (k : Int) < (o.length : Int) := by omega
      obtain rfl : k = o.length := by omega
      have mf : (o.flatMap alE ++ zAl).all flat = true := zf
      have ml : (o.flatMap alE ++ zAl).length = (o.length + 1) * 4 := by rw [List.length_append, ofl]; simp [zAl]; try omega
      have t1 : (o.flatMap alE ++ zAl).take (o.length * 4) = o.flatMap alE := by rw [← ofl, List.take_left]
      generalize hM : o.flatMap alE ++ zAl = M at mf ml t1 ⊢
      simp -dsimp -implicitDefEqProofs (disch := omega) [go_sem, -List.getD_eq_getElem?_getD, ite_yes, hko, hkoi]
      refine ADraw.quiet (by kernel_rfl) (by kernel_rfl) (by kernel_rfl) ?_
      simp -dsimp -implicitDefEqProofs (disch := omega) [go_sem, -List.getD_eq_getElem?_getD, ite_yes, hko, hkoi]
      refine ACall.of (insEnd_room (bx := M) (vx := [.int .i64 node, .int .i64 K, .int .i64 hour, .bool false]) (by omega) (by simp [Heap.get_append_right, Heap.get]) ml mf (by simp [Heap.get_append_right, Heap.get]) rfl rfl (by omega)) ?_
      have hMM := hM; rw [t1]
      simp -dsimp -implicitDefEqProofs (disch := omega) [go_sem, -List.getD_eq_getElem?_getD, ite_yes]
      refine fin_list [some 1] rfl ?_ (by simp -dsimp -implicitDefEqProofs (disch := omega) [go_sem, -List.getD_eq_getElem?_getD, ite_yes, tkl])
      simp -dsimp -implicitDefEqProofs (disch := omega) [go_sem, -List.getD_eq_getElem?_getD, ite_yes]
      exact WL_eq (by rw [tke]; simp [alE, hMM])
  · have same := take1_same (rule := rule) (r := (hour, node, value)) ho
    have nw := take1_new (rule := rule) (l := l) (r := (hour, node, value))
    simp only at same nw
    have e0 : oldN l node = 0 := by unfold oldN; rw [if_neg hh]
    have ofn := offL_no hh
    rw [if_neg hh] at fl ⊢
    have C := fun H' => kindAfter_A rule 0 value hok H'
    rw [e0] at same nw
    obtain ⟨K, hK⟩ : ∃ K, K = kindN rule 0 value := ⟨_, rfl⟩
    rw [← hK] at same nw C
    rw [ofn] at nw olt oat oll ofl
    clear e0 old
    generalize lowN node l = p at *
    simp -dsimp -implicitDefEqProofs (disch := omega) [go_sem, -List.getD_eq_getElem?_getD, ite_yes]
    refine ADraw.quiet (by kernel_rfl) (by kernel_rfl) (by kernel_rfl) ?_
    simp -dsimp -implicitDefEqProofs (disch := omega) [go_sem, -List.getD_eq_getElem?_getD, ite_yes, hkr2, hkri, csr]
    refine ACallQ.of (C _) rfl ?_
    by_cases hsame : K = 0
    · rw [tk, same hsame]
      simp -dsimp -implicitDefEqProofs (disch := omega) [go_sem, -List.getD_eq_getElem?_getD, ite_yes, hsame]
      refine fin_list [some 2] rfl ?_ (by simp -dsimp -implicitDefEqProofs (disch := omega) [go_sem, -List.getD_eq_getElem?_getD, ite_yes])
      simp -dsimp -implicitDefEqProofs (disch := omega) [go_sem, -List.getD_eq_getElem?_getD, ite_yes]
      exact .inl ⟨rfl, alE_flat _⟩
    simp -dsimp -implicitDefEqProofs (disch := omega) [go_sem, -List.getD_eq_getElem?_getD, ite_yes, hsame]
    refine ACall.of (deleteAl_no l (atNode node) 133 #[.pointer (some ⟨H.length, 0, none⟩)] fl (by omega) _ _ _ (Sl.nth 2 rfl rfl) (by simp [L2, WMP, sg]) (fun b => takeF2_A b node _ _ (by rw [aCells_eq, Heap.get_append_zero]; rfl))) ?_
    have tke := nw hsame hsame
    rw [← tk] at tke
    have tkl : (takeL rs l (hour, node, value)).length = l.length + 1 := by rw [tke]; simp only [List.length_append, List.length_cons, List.length_take, List.length_drop]; omega
    clear lf al hS ofn ho fl
    generalize hol : l = o at *
    rw [← List.append_nil (o.flatMap alE)]
    simp -dsimp -implicitDefEqProofs (disch := omega) [go_sem, -List.getD_eq_getElem?_getD, ite_yes, hsame]
    have zf := al_nf o
    refine ALoop.intro (ι := Nat) (fun k => k ≤ p) (fun k => [(5, .pointer (some ⟨H.length, 0, none⟩)), (7, .slice (some ⟨H.length + 1, 0, none⟩) o.length o.length), (11, .int .i64 K), (12, .int .i64 k)])
      (fun k => H ++ [some ⟨[.int .i64 hour, .int .i64 node, .int .i64 value], true, 59, 1⟩, some ⟨o.flatMap alE ++ [], true, 67, 4⟩]) (fun k => p - k) 0 (by omega) ?_ ?_
    · refine weakS_mk [some 0, some 2] rfl ?_ (by simp -dsimp -implicitDefEqProofs (disch := omega) [go_sem, -List.getD_eq_getElem?_getD, ite_yes])
      simp -dsimp -implicitDefEqProofs (disch := omega) [go_sem, -List.getD_eq_getElem?_getD, ite_yes]
      exact ⟨.inl ⟨rfl, rfl⟩, .inl ⟨by simp [zAl], by first | exact zf | exact alE_flat o⟩⟩
    intro k hk
    by_cases hlt : k < p
    · have c1 := olt k hlt
      have hko : k < o.length := by omega
      have hkoi : (k : Int) < (o.length : Int) := by omega
      have hk4 : k * 4 + 1 ≤ (o.flatMap alE ++ []).length := by rw [List.length_append, ofl]; omega
      have nc := al_node o [] hko
      generalize hM : o.flatMap alE ++ [] = M at hk4 nc ⊢
      simp -dsimp -implicitDefEqProofs (disch := omega) [go_sem, -List.getD_eq_getElem?_getD, ite_yes, hko, hkoi]
      refine ADraw.quiet (by kernel_rfl) (by kernel_rfl) (by kernel_rfl) ?_
      simp -dsimp -implicitDefEqProofs (disch := omega) [go_sem, -List.getD_eq_getElem?_getD, ite_yes, hko, hkoi, hk4, nc, c1]
      refine LoopEnd.of (k + 1) (by omega) (by omega) (weakS_mk [some 0, some 1] rfl ?_ (by simp -dsimp -implicitDefEqProofs (disch := omega) [go_sem, -List.getD_eq_getElem?_getD, ite_yes]))
      simp -dsimp -implicitDefEqProofs (disch := omega) [go_sem, -List.getD_eq_getElem?_getD, ite_yes]
      exact ⟨.inl ⟨rfl, rfl⟩, .inl ⟨rfl, hM ▸ zf⟩⟩
    obtain rfl : k = p := by omega
    have fin := fun (X : List Value) (hX : X = (takeL rs o (hour, node, value)).flatMap alE ++ []) => hX
    by_cases hko : k < o.length
    · have hkoi : (k : Int) < (o.length : Int) := by omega
      have c1 := oat hko
      have hk4 : k * 4 + 1 ≤ (o.flatMap alE ++ []).length := by rw [List.length_append, ofl]; omega
      have nc := al_node o [] hko
      obtain ⟨t1, t2⟩ := al_take o k [] (by omega)
      have mf : (o.flatMap alE ++ []).all flat = true := zf
      have ml : o.length * 4 ≤ (o.flatMap alE ++ []).length := by rw [List.length_append, ofl]; omega
      generalize hM : o.flatMap alE ++ [] = M at hk4 nc t1 t2 mf ml ⊢
      simp -dsimp -implicitDefEqProofs (disch := omega) [go_sem, -List.getD_eq_getElem?_getD, ite_yes, hko, hkoi]
      refine ADraw.quiet (by kernel_rfl) (by kernel_rfl) (by kernel_rfl) ?_
      simp -dsimp -implicitDefEqProofs (disch := omega) [go_sem, -List.getD_eq_getElem?_getD, ite_yes, hko, hkoi, hk4, nc, c1]
      refine ACall.of (insert_A (bx := M) (vx := [.int .i64 node, .int .i64 K, .int .i64 hour, .bool false]) (by omega) hko (by simp [Heap.get_append_right, Heap.get]) (by omega) mf (by simp [Heap.get_append_right, Heap.get]) rfl rfl (by omega)) ?_
      rw [t1, t2]
      simp -dsimp -implicitDefEqProofs (disch := omega) [go_sem, -List.getD_eq_getElem?_getD, ite_yes]
      refine fin_list [some 3] rfl ?_ (by simp -dsimp -implicitDefEqProofs (disch := omega) [go_sem, -List.getD_eq_getElem?_getD, ite_yes, tkl])
      simp -dsimp -implicitDefEqProofs (disch := omega) [go_sem, -List.getD_eq_getElem?_getD, ite_yes]
      exact WL_eq (by rw [tke]; simp [alE])
    · have hkoi : ¬ (k : Int) < (o.length : Int) := by omega
      obtain rfl : k = o.length := by omega
      have mf : (o.flatMap alE ++ []).all flat = true := zf
      have ml : (o.flatMap alE ++ []).length = o.length * 4 := by rw [List.length_append, ofl]; simp [zAl]; try omega
      have t1 : (o.flatMap alE ++ []).take (o.length * 4) = o.flatMap alE := by rw [← ofl, List.take_left]
      generalize hM : o.flatMap alE ++ [] = M at mf ml t1 ⊢
      simp -dsimp -implicitDefEqProofs (disch := omega) [go_sem, -List.getD_eq_getElem?_getD, ite_yes, hko, hkoi]
      refine ADraw.quiet (by kernel_rfl) (by kernel_rfl) (by kernel_rfl) ?_
      simp -dsimp -implicitDefEqProofs (disch := omega) [go_sem, -List.getD_eq_getElem?_getD, ite_yes, hko, hkoi]
      refine ACall.of (insEnd_new (bx := M) (vx := [.int .i64 node, .int .i64 K, .int .i64 hour, .bool false]) (by omega) (by simp [Heap.get_append_right, Heap.get]) ml mf (by simp [Heap.get_append_right, Heap.get]) rfl rfl (by omega)) ?_
      have hMM : M = o.flatMap alE := by rw [← hM, List.append_nil]
      simp -dsimp -implicitDefEqProofs (disch := omega) [go_sem, -List.getD_eq_getElem?_getD, ite_yes]
      refine fin_list [some 3] rfl ?_ (by simp -dsimp -implicitDefEqProofs (disch := omega) [go_sem, -List.getD_eq_getElem?_getD, ite_yes, tkl])
      simp -dsimp -implicitDefEqProofs (disch := omega) [go_sem, -List.getD_eq_getElem?_getD, ite_yes]
      exact WL_eq (by rw [tke]; simp [alE, hMM])
end Go.Proofs.YthnnbgggfpempaaDoor
/- spec.l21Take. -/
namespace Go.Proofs.YthnnbgggfpempaaDoor
open Go.Am
set_option linter.unusedVariables false
set_option linter.unusedSimpArgs false
set_option maxRecDepth 100000
set_option maxHeartbeats 4000000
theorem rule_mono {rs : List Ar} (h : goodR rs = true) : ∀ i j, i < j → j < rs.length → (rs.getD i rD).1 < (rs.getD j rD).1 := by
  intro i j hij hj
  have key : ∀ k, i + k + 1 < rs.length → (rs.getD i rD).1 < (rs.getD (i + k + 1) rD).1 := by
    intro k
    induction k with
    | zero =>
      intro hk
      exact of_decide_eq_true ((asc_at h (i + 1) (by omega)).2 (by omega))
    | succ k ih =>
      intro hk
      have h1 := ih (by omega)
      have h2 : (rs.getD (i + (k + 1) + 1 - 1) rD).1 < (rs.getD (i + (k + 1) + 1) rD).1 := of_decide_eq_true ((asc_at h (i + (k + 1) + 1) hk).2 (by omega))
      rw [Nat.add_sub_cancel] at h2
      have e : i + (k + 1) = i + k + 1 := by omega
      rw [e] at h2 ⊢
      exact Int.lt_trans h1 h2
  have := key (j - i - 1) (by omega)
  rwa [show i + (j - i - 1) + 1 = j by omega] at this
/-- the rule of a node, among the first i -/
noncomputable def ruleTo (rs : List Ar) (node : Int) (i : Nat) : Int := if ruleI rs node < i then ruleI rs node else -1
theorem ruleTo_zero (rs : List Ar) (node : Int) : ruleTo rs node 0 = -1 := by
  have := ruleI_lt rs node
  unfold ruleTo; split <;> omega
theorem ruleTo_all (rs : List Ar) (node : Int) : ruleTo rs node rs.length = ruleI rs node := by
  have := ruleI_lt rs node
  unfold ruleTo; rw [if_pos (by omega)]
theorem ruleTo_next {rs : List Ar} (h : goodR rs = true) (node : Int) {i : Nat} (hi : i < rs.length) : ruleTo rs node (i + 1) = if (rs.getD i rD).1 = node then (i : Int) else ruleTo rs node i := by
  have f := ruleI_found rs node
  have m := rule_mono h
  have b := ruleI_lt rs node
  unfold ruleTo
  generalize ruleI rs node = r at *
  cases f with
  | yes k h1 h2 h3 =>
    have h2 := of_decide_eq_true h2
    by_cases e : (rs.getD i rD).1 = node
    · have : i = k := by
        rcases Nat.lt_trichotomy i k with hlt | rfl | hlt
        · have := m i k hlt h1; omega
        · rfl
        · have := m k i hlt hi; omega
      subst this
      rw [if_pos e, if_pos (by omega)]
    · have : i ≠ k := fun e2 => e (by rw [e2]; exact h2)
      rw [if_neg e]
      by_cases hk : k < i
      · rw [if_pos (by omega), if_pos (by omega)]
      · rw [if_neg (by omega), if_neg (by omega)]
  | no h3 =>
    have := of_decide_eq_false (h3 i hi)
    rw [if_neg this, if_pos (by omega), if_pos (by omega)]
theorem sTake_A (rs : List Ar) (l : List Al) (hour node value : Int) (hrl : rs.length ≤ 1048577) (hg : goodR rs = true) (ho : Ord l) (hl8 : l.length ≤ 8) (c0 c1 : Nat) (H : Heap) (t0 t1 : Nat) (hR : Sl arE H t0 rs) (hS : Sl alE H t1 l) (hz1 : blkSz H t1 = some 4) :
    AFunC Tryd.prog 102 [.slice (some ⟨t0, 0, none⟩) rs.length c0, .slice (some ⟨t1, 0, none⟩) l.length c1, .agg #[.int .i64 hour, .int .i64 node, .int .i64 value]] H
      (.slice (some ⟨H.length, 0, none⟩) (takeL rs l (hour, node, value)).length (takeL rs l (hour, node, value)).length) (H ++ [some ⟨(takeL rs l (hour, node, value)).flatMap alE, true, 67, 4⟩]) := by
  refine AFunC.of_body Tryd.func102 (by kernel_rfl) rfl (by kernel_rfl) (by simp [Tryd.ntmps102]) ?_
  have ht0 := hR.lt
  have ht1 := hS.lt
  have al := hS.all (s := 4) (fun _ => rfl)
  have lf := alE_length l
  have cs := fun k hk => hR.cells (s := 4) (fun _ => rfl) rD k hk
  have cr := fun k hk => hR.cell (s := 4) (fun _ => rfl) rD k 0 hk (by omega)
  have ca := fun k hk => hS.cells (s := 4) (fun _ => rfl) aD k hk
  have cn := fun k hk => hS.cell (s := 4) (fun _ => rfl) aD k 0 hk (by omega)
  simp only [arE] at cs
  simp only [arE, Nat.add_zero] at cr
  simp only [alE] at ca
  simp only [alE, Nat.add_zero] at cn
  have rl := ruleI_lt rs node
  simp -dsimp -implicitDefEqProofs (disch := omega) [go_sem, -List.getD_eq_getElem?_getD, ite_yes, ht0, ht1]
  refine ALoop.intro (ι := Nat) (fun i => i ≤ rs.length) (fun i => [(0, .slice (some ⟨t0, 0, none⟩) rs.length c0), (1, .slice (some ⟨t1, 0, none⟩) l.length c1), (5, .pointer (some ⟨H.length, 0, none⟩)), (7, .slice (some ⟨H.length + 1, 0, none⟩) 0 0), (8, .int .i64 (ruleTo rs node i)), (9, .int .i64 i)])
    (fun _ => H ++ [some ⟨[.int .i64 hour, .int .i64 node, .int .i64 value], true, 59, 1⟩, some ⟨[], true, 67, 4⟩]) (fun i => rs.length - i) 0 (by omega) ?_ ?_
  · refine weakS_mk [some 0, some 1] rfl ?_ (by simp -dsimp -implicitDefEqProofs (disch := omega) [go_sem, -List.getD_eq_getElem?_getD, ite_yes, ht0, ht1, ruleTo_zero])
    simp -dsimp -implicitDefEqProofs (disch := omega) [go_sem, -List.getD_eq_getElem?_getD, ite_yes]
    exact ⟨.inl ⟨rfl, rfl⟩, .inl ⟨rfl, rfl⟩⟩
  intro i hi
  by_cases hlt : i < rs.length
  · have hlti : (i : Int) < (rs.length : Int) := by omega
    have nx := ruleTo_next hg node hlt
    have c := cr i hlt
    simp -dsimp -implicitDefEqProofs (disch := omega) [go_sem, -List.getD_eq_getElem?_getD, ite_yes, hlt, hlti]
    refine ADraw.quiet (by kernel_rfl) (by kernel_rfl) (by kernel_rfl) ?_
    by_cases e : (rs.getD i rD).1 = node
    · rw [if_pos e] at nx
      rw [e] at c
      simp -dsimp -implicitDefEqProofs (disch := omega) [go_sem, -List.getD_eq_getElem?_getD, ite_yes, hlt, hlti, c]
      refine LoopEnd.of (i + 1) (by omega) (by omega) (weakS_mk [some 0, some 1] rfl ?_ (by simp -dsimp -implicitDefEqProofs (disch := omega) [go_sem, -List.getD_eq_getElem?_getD, ite_yes, ht0, ht1, nx]))
      simp -dsimp -implicitDefEqProofs (disch := omega) [go_sem, -List.getD_eq_getElem?_getD, ite_yes]
      exact ⟨.inl ⟨rfl, rfl⟩, .inl ⟨rfl, rfl⟩⟩
    · rw [if_neg e] at nx
      simp -dsimp -implicitDefEqProofs (disch := omega) [go_sem, -List.getD_eq_getElem?_getD, ite_yes, hlt, hlti, c, e]
      refine LoopEnd.of (i + 1) (by omega) (by omega) (weakS_mk [some 0, some 1] rfl ?_ (by simp -dsimp -implicitDefEqProofs (disch := omega) [go_sem, -List.getD_eq_getElem?_getD, ite_yes, ht0, ht1, nx]))
      simp -dsimp -implicitDefEqProofs (disch := omega) [go_sem, -List.getD_eq_getElem?_getD, ite_yes]
      exact ⟨.inl ⟨rfl, rfl⟩, .inl ⟨rfl, rfl⟩⟩
  obtain rfl : i = rs.length := by omega
  have hlti : ¬ (rs.length : Int) < (rs.length : Int) := by omega
  rw [ruleTo_all]
  by_cases hneg : ruleI rs node < 0
  · have tk : takeL rs l (hour, node, value) = l := by unfold takeL; rw [if_pos hneg]
    rw [tk]
    simp -dsimp -implicitDefEqProofs (disch := omega) [go_sem, -List.getD_eq_getElem?_getD, ite_yes, hneg, al, lf, ht1]
    refine ⟨by omega, fin_list [some 2] rfl ?_ (by simp -dsimp -implicitDefEqProofs (disch := omega) [go_sem, -List.getD_eq_getElem?_getD, ite_yes])⟩
    simp -dsimp -implicitDefEqProofs (disch := omega) [go_sem, -List.getD_eq_getElem?_getD, ite_yes]
    exact .inl ⟨rfl, alE_flat _⟩
  obtain ⟨kr, hkr⟩ : ∃ k : Nat, ruleI rs node = (k : Int) := ⟨(ruleI rs node).toNat, by omega⟩
  have hkr2 : kr < rs.length := by omega
  have hkri : (kr : Int) < (rs.length : Int) := by omega
  have hkn : ¬ (kr : Int) < 0 := by omega
  have tk : takeL rs l (hour, node, value) = take1 (rs.getD kr rD) l (hour, node, value) := by unfold takeL; rw [if_neg hneg, hkr]; rfl
  have csr := cs kr hkr2
  have hok := rule_ok hg hkr2
  rw [hkr]
  clear rl cs cr hneg
  generalize rs.getD kr rD = rule at *
  have old := oldN_rng ho node
  have llt := fun k (hk : k < lowN node l) => lowN_lt node l k hk
  have lat := lowN_at node l
  have ple := lowN_le node l
  simp -dsimp -implicitDefEqProofs (disch := omega) [go_sem, -List.getD_eq_getElem?_getD, ite_yes, hkn]
  refine ALoop.intro (ι := Nat) (fun k => k ≤ lowN node l) (fun k => [(0, .slice (some ⟨t0, 0, none⟩) rs.length c0), (1, .slice (some ⟨t1, 0, none⟩) l.length c1), (5, .pointer (some ⟨H.length, 0, none⟩)), (7, .slice (some ⟨H.length + 1, 0, none⟩) 0 0), (8, .int .i64 kr), (10, .int .i64 k)])
    (fun _ => H ++ [some ⟨[.int .i64 hour, .int .i64 node, .int .i64 value], true, 59, 1⟩, some ⟨[], true, 67, 4⟩]) (fun k => lowN node l - k) 0 (by omega) ?_ ?_
  · refine weakS_mk [some 0, some 1] rfl ?_ (by simp -dsimp -implicitDefEqProofs (disch := omega) [go_sem, -List.getD_eq_getElem?_getD, ite_yes, ht0, ht1])
    simp -dsimp -implicitDefEqProofs (disch := omega) [go_sem, -List.getD_eq_getElem?_getD, ite_yes]
    exact ⟨.inl ⟨rfl, rfl⟩, .inl ⟨rfl, rfl⟩⟩
  intro k hk
  by_cases hlt : k < lowN node l
  · have c1 := llt k hlt
    have hkl : k < l.length := by omega
    have hkli : (k : Int) < (l.length : Int) := by omega
    have c := cn k hkl
    simp -dsimp -implicitDefEqProofs (disch := omega) [go_sem, -List.getD_eq_getElem?_getD, ite_yes, hkl, hkli]
    refine ADraw.quiet (by kernel_rfl) (by kernel_rfl) (by kernel_rfl) ?_
    simp -dsimp -implicitDefEqProofs (disch := omega) [go_sem, -List.getD_eq_getElem?_getD, ite_yes, hkl, hkli, c, c1]
    refine LoopEnd.of (k + 1) (by omega) (by omega) (weakS_mk [some 0, some 1] rfl ?_ (by simp -dsimp -implicitDefEqProofs (disch := omega) [go_sem, -List.getD_eq_getElem?_getD, ite_yes, ht0, ht1]))
    simp -dsimp -implicitDefEqProofs (disch := omega) [go_sem, -List.getD_eq_getElem?_getD, ite_yes]
    exact ⟨.inl ⟨rfl, rfl⟩, .inl ⟨rfl, rfl⟩⟩
  obtain rfl : k = lowN node l := by omega
  have a1 := hS.cut (s := 4) (fun _ => rfl) 0 (lowN node l) (by omega)
  have a2 := hS.cut (s := 4) (fun _ => rfl) (nextN l node) (l.length - nextN l node) (by have := nextN_le l node; omega)
  rw [List.drop_zero, Nat.zero_mul] at a1
  rw [List.take_of_length_le (by rw [List.length_drop]; omega)] at a2
  have b1 : ((l.take (lowN node l)).flatMap alE).length = lowN node l * 4 := by rw [alE_length, List.length_take, Nat.min_eq_left (by omega)]
  have tkd : take1 rule l (hour, node, value) = l.take (lowN node l) ++ (if kindN rule (oldN l node) value = 0 then [] else [newA rule l (hour, node, value)]) ++ l.drop (nextN l node) := rfl
  have nwd : newA rule l (hour, node, value) = if kindN rule (oldN l node) value = oldN l node then (if hasN l node = true then l.getD (lowN node l) aD else (node, 0, 0, false)) else (node, kindN rule (oldN l node) value, hour, false) := rfl
  rw [nwd, ← tk] at tkd
  clear nwd tk
  have nle := nextN_le l node
  have hnx : nextN l node = lowN node l + (if hasN l node = true then 1 else 0) := rfl
  have dhas : hasN l node = decide (lowN node l < l.length ∧ (l.getD (lowN node l) aD).1 = node) := rfl
  have tl : (l.take (lowN node l)).length = lowN node l := by rw [List.length_take]; omega
  have hno1 : lowN node l < l.length → ¬ (l.getD (lowN node l) aD).1 < node := fun h => by have := lat h; omega
  by_cases hh : hasN l node = true
  · have hp := (of_decide_eq_true hh).1
    have hn := (of_decide_eq_true hh).2
    have hpi : (lowN node l : Int) < (l.length : Int) := by omega
    have hlt0 := hno1 hp
    have c := cn _ hp
    have c4 := ca _ hp
    have e0 : oldN l node = (l.getD (lowN node l) aD).2.1 := by unfold oldN; rw [if_pos hh]
    have old1 := old.2.2 hh
    rw [if_pos hh] at hnx tkd
    rw [← e0] at c4
    have enx : ((lowN node l : Nat) : Int) + 1 = (nextN l node : Nat) := by omega
    have C := fun H' => l21Kind_A rule (oldN l node) value hok H'
    obtain ⟨K, hK⟩ : ∃ K, K = kindN rule (oldN l node) value := ⟨_, rfl⟩
    rw [← hK] at tkd C
    generalize nextN l node = q at *
    generalize oldN l node = old0 at *
    clear dhas hh
    generalize lowN node l = p at *
    generalize l.getD p aD = x at *
    rw [hn] at hlt0 c c4
    simp -dsimp -implicitDefEqProofs (disch := omega) [go_sem, -List.getD_eq_getElem?_getD, ite_yes, hp, hpi]
    refine ADraw.quiet (by kernel_rfl) (by kernel_rfl) (by kernel_rfl) ?_
    simp -dsimp -implicitDefEqProofs (disch := omega) [go_sem, -List.getD_eq_getElem?_getD, ite_yes, hp, hpi, c, hlt0, a1, ht1]
    refine ⟨by omega, ?_⟩
    refine ADraw.quiet (by kernel_rfl) (by kernel_rfl) (by kernel_rfl) ?_
    simp -dsimp -implicitDefEqProofs (disch := omega) [go_sem, -List.getD_eq_getElem?_getD, ite_yes, hp, hpi, c, hlt0, a1, ht1, c4]
    refine ADraw.quiet (by kernel_rfl) (by kernel_rfl) (by kernel_rfl) ?_
    simp -dsimp -implicitDefEqProofs (disch := omega) [go_sem, -List.getD_eq_getElem?_getD, ite_yes, hkr2, hkri, csr]
    refine ACallQ.of (C _) rfl ?_
    by_cases hsame : K = old0
    · have hz : ¬ K = 0 := by omega
      have ho0 : ¬ old0 = 0 := by omega
      rw [if_neg hz, if_pos hsame] at tkd
      have tkl := congrArg List.length tkd
      simp only [List.length_append, List.length_singleton, List.length_nil, List.length_drop, tl] at tkl
      simp -dsimp -implicitDefEqProofs (disch := omega) [go_sem, -List.getD_eq_getElem?_getD, ite_yes, hsame, ho0, hz, b1, enx, a2, hz1, ht1]
      first
      | refine ⟨by omega, by omega, fin_list [some 6] rfl ?_ (by simp -dsimp -implicitDefEqProofs (disch := omega) [go_sem, -List.getD_eq_getElem?_getD, ite_yes, tkl])⟩
      | refine ⟨by omega, fin_list [some 6] rfl ?_ (by simp -dsimp -implicitDefEqProofs (disch := omega) [go_sem, -List.getD_eq_getElem?_getD, ite_yes, tkl])⟩
      simp -dsimp -implicitDefEqProofs (disch := omega) [go_sem, -List.getD_eq_getElem?_getD, ite_yes]
      exact WL_eq (by rw [tkd]; first | (simp [alE, hn, ← e0]; done) | simp [List.flatMap_append, -List.take_append_drop, alE])
    by_cases hz : K = 0
    · rw [if_pos hz] at tkd
      have ho0 : ¬ 0 = old0 := by omega
      have tkl := congrArg List.length tkd
      simp only [List.length_append, List.length_singleton, List.length_nil, List.length_drop, tl] at tkl
      simp -dsimp -implicitDefEqProofs (disch := omega) [go_sem, -List.getD_eq_getElem?_getD, ite_yes, hsame, hz, ho0, b1, enx, a2, hz1, ht1]
      first
      | refine ⟨by omega, by omega, fin_list [some 4] rfl ?_ (by simp -dsimp -implicitDefEqProofs (disch := omega) [go_sem, -List.getD_eq_getElem?_getD, ite_yes, tkl])⟩
      | refine ⟨by omega, fin_list [some 4] rfl ?_ (by simp -dsimp -implicitDefEqProofs (disch := omega) [go_sem, -List.getD_eq_getElem?_getD, ite_yes, tkl])⟩
      simp -dsimp -implicitDefEqProofs (disch := omega) [go_sem, -List.getD_eq_getElem?_getD, ite_yes]
      exact WL_eq (by rw [tkd]; first | (simp [alE]; done) | simp [List.flatMap_append, -List.take_append_drop, alE])
    · rw [if_neg hz, if_neg hsame] at tkd
      have tkl := congrArg List.length tkd
      simp only [List.length_append, List.length_singleton, List.length_nil, List.length_drop, tl] at tkl
      simp -dsimp -implicitDefEqProofs (disch := omega) [go_sem, -List.getD_eq_getElem?_getD, ite_yes, hsame, hz, b1, enx, a2, hz1, ht1]
      first
      | refine ⟨by omega, by omega, fin_list [some 6] rfl ?_ (by simp -dsimp -implicitDefEqProofs (disch := omega) [go_sem, -List.getD_eq_getElem?_getD, ite_yes, tkl])⟩
      | refine ⟨by omega, fin_list [some 6] rfl ?_ (by simp -dsimp -implicitDefEqProofs (disch := omega) [go_sem, -List.getD_eq_getElem?_getD, ite_yes, tkl])⟩
      simp -dsimp -implicitDefEqProofs (disch := omega) [go_sem, -List.getD_eq_getElem?_getD, ite_yes]
      exact WL_eq (by rw [tkd]; first | (simp [alE]; done) | simp [List.flatMap_append, -List.take_append_drop, alE])
  · have e0 : oldN l node = 0 := by unfold oldN; rw [if_neg hh]
    have hc := fun h => (show ¬ ((lowN node l < l.length ∧ (l.getD (lowN node l) aD).1 = node)) from fun h2 => hh (decide_eq_true h2)) h
    rw [if_neg hh] at hnx tkd
    rw [Nat.add_zero] at hnx
    have C := fun H' => l21Kind_A rule (oldN l node) value hok H'
    rw [e0] at tkd C
    obtain ⟨K, hK⟩ : ∃ K, K = kindN rule 0 value := ⟨_, rfl⟩
    rw [← hK] at tkd C
    rw [hnx] at a2 tkd
    generalize lowN node l = p at *
    have dropl : p + (l.length - p) = l.length := by omega
    have step : ∀ (X : Prop), X → X := fun _ h => h
    by_cases hpl : p < l.length
    · have hpli : (p : Int) < (l.length : Int) := by omega
      have hne : ¬ (l.getD p aD).1 = node := fun h => hc ⟨hpl, h⟩
      have hlt0 := hno1 hpl
      have c := cn _ hpl
      generalize l.getD p aD = x at *
      have enx : True := trivial
      simp -dsimp -implicitDefEqProofs (disch := omega) [go_sem, -List.getD_eq_getElem?_getD, ite_yes, hpl, hpli, c, hlt0, hne]
      refine ADraw.quiet (by kernel_rfl) (by kernel_rfl) (by kernel_rfl) ?_
      simp -dsimp -implicitDefEqProofs (disch := omega) [go_sem, -List.getD_eq_getElem?_getD, ite_yes, hpl, hpli, c, hlt0, hne, a1, ht1]
      refine ⟨by omega, ?_⟩
      refine ADraw.quiet (by kernel_rfl) (by kernel_rfl) (by kernel_rfl) ?_
      simp -dsimp -implicitDefEqProofs (disch := omega) [go_sem, -List.getD_eq_getElem?_getD, ite_yes, hpl, hpli, c, hlt0, hne, a1, ht1]
      refine ADraw.quiet (by kernel_rfl) (by kernel_rfl) (by kernel_rfl) ?_
      simp -dsimp -implicitDefEqProofs (disch := omega) [go_sem, -List.getD_eq_getElem?_getD, ite_yes, hkr2, hkri, csr]
      refine ACallQ.of (C _) rfl ?_
      by_cases hz : K = 0
      · rw [if_pos hz] at tkd
        have tkl := congrArg List.length tkd
        simp only [List.length_append, List.length_singleton, List.length_nil, List.length_drop, tl] at tkl
        simp -dsimp -implicitDefEqProofs (disch := omega) [go_sem, -List.getD_eq_getElem?_getD, ite_yes, hz, b1, enx, a2, hz1, ht1]
        first
        | refine ⟨by omega, by omega, fin_list [some 4] rfl ?_ (by simp -dsimp -implicitDefEqProofs (disch := omega) [go_sem, -List.getD_eq_getElem?_getD, ite_yes, tkl])⟩
        | refine ⟨by omega, fin_list [some 4] rfl ?_ (by simp -dsimp -implicitDefEqProofs (disch := omega) [go_sem, -List.getD_eq_getElem?_getD, ite_yes, tkl])⟩
        simp -dsimp -implicitDefEqProofs (disch := omega) [go_sem, -List.getD_eq_getElem?_getD, ite_yes]
        exact WL_eq (by rw [tkd]; first | (simp [alE]; done) | simp [List.flatMap_append, -List.take_append_drop, alE])
      · rw [if_neg hz, if_neg hz] at tkd
        have tkl := congrArg List.length tkd
        simp only [List.length_append, List.length_singleton, List.length_nil, List.length_drop, tl] at tkl
        simp -dsimp -implicitDefEqProofs (disch := omega) [go_sem, -List.getD_eq_getElem?_getD, ite_yes, hz, b1, enx, a2, hz1, ht1]
        first
        | refine ⟨by omega, by omega, fin_list [some 6] rfl ?_ (by simp -dsimp -implicitDefEqProofs (disch := omega) [go_sem, -List.getD_eq_getElem?_getD, ite_yes, tkl])⟩
        | refine ⟨by omega, fin_list [some 6] rfl ?_ (by simp -dsimp -implicitDefEqProofs (disch := omega) [go_sem, -List.getD_eq_getElem?_getD, ite_yes, tkl])⟩
        simp -dsimp -implicitDefEqProofs (disch := omega) [go_sem, -List.getD_eq_getElem?_getD, ite_yes]
        exact WL_eq (by rw [tkd]; first | (simp [alE]; done) | simp [List.flatMap_append, -List.take_append_drop, alE])
    · have hpli : ¬ (p : Int) < (l.length : Int) := by omega
      have p0 : l.length - p = 0 := by omega
      rw [p0, Nat.zero_mul] at a2
      have enx : True := trivial
      simp -dsimp -implicitDefEqProofs (disch := omega) [go_sem, -List.getD_eq_getElem?_getD, ite_yes, hpl, hpli]
      refine ADraw.quiet (by kernel_rfl) (by kernel_rfl) (by kernel_rfl) ?_
      simp -dsimp -implicitDefEqProofs (disch := omega) [go_sem, -List.getD_eq_getElem?_getD, ite_yes, hpl, hpli, a1, ht1]
      refine ⟨by omega, ?_⟩
      refine ADraw.quiet (by kernel_rfl) (by kernel_rfl) (by kernel_rfl) ?_
      simp -dsimp -implicitDefEqProofs (disch := omega) [go_sem, -List.getD_eq_getElem?_getD, ite_yes, hpl, hpli, a1, ht1]
      refine ADraw.quiet (by kernel_rfl) (by kernel_rfl) (by kernel_rfl) ?_
      simp -dsimp -implicitDefEqProofs (disch := omega) [go_sem, -List.getD_eq_getElem?_getD, ite_yes, hkr2, hkri, csr]
      refine ACallQ.of (C _) rfl ?_
      by_cases hz : K = 0
      · rw [if_pos hz] at tkd
        have tkl := congrArg List.length tkd
        simp only [List.length_append, List.length_singleton, List.length_nil, List.length_drop, tl] at tkl
        simp -dsimp -implicitDefEqProofs (disch := omega) [go_sem, -List.getD_eq_getElem?_getD, ite_yes, hz, b1, enx, a2, hz1, ht1]
        first
        | refine ⟨by omega, by omega, fin_list [some 4] rfl ?_ (by simp -dsimp -implicitDefEqProofs (disch := omega) [go_sem, -List.getD_eq_getElem?_getD, ite_yes, tkl])⟩
        | refine ⟨by omega, fin_list [some 4] rfl ?_ (by simp -dsimp -implicitDefEqProofs (disch := omega) [go_sem, -List.getD_eq_getElem?_getD, ite_yes, tkl])⟩
        simp -dsimp -implicitDefEqProofs (disch := omega) [go_sem, -List.getD_eq_getElem?_getD, ite_yes]
        exact WL_eq (by rw [tkd]; first | (simp [alE]; done) | simp [List.flatMap_append, -List.take_append_drop, alE])
      · rw [if_neg hz, if_neg hz] at tkd
        have tkl := congrArg List.length tkd
        simp only [List.length_append, List.length_singleton, List.length_nil, List.length_drop, tl] at tkl
        simp -dsimp -implicitDefEqProofs (disch := omega) [go_sem, -List.getD_eq_getElem?_getD, ite_yes, hz, b1, enx, a2, hz1, ht1]
        first
        | refine ⟨by omega, by omega, fin_list [some 6] rfl ?_ (by simp -dsimp -implicitDefEqProofs (disch := omega) [go_sem, -List.getD_eq_getElem?_getD, ite_yes, tkl])⟩
        | refine ⟨by omega, fin_list [some 6] rfl ?_ (by simp -dsimp -implicitDefEqProofs (disch := omega) [go_sem, -List.getD_eq_getElem?_getD, ite_yes, tkl])⟩
        simp -dsimp -implicitDefEqProofs (disch := omega) [go_sem, -List.getD_eq_getElem?_getD, ite_yes]
        exact WL_eq (by rw [tkd]; first | (simp [alE]; done) | simp [List.flatMap_append, -List.take_append_drop, alE])
end Go.Proofs.YthnnbgggfpempaaDoor
/- TakeReading: both sides, and the law. -/
namespace Go.Proofs.YthnnbgggfpempaaDoor
open Go.Am
set_option linter.unusedVariables false
set_option linter.unusedSimpArgs false
set_option maxRecDepth 100000
set_option maxHeartbeats 4000000
def takeOk (rs : List Ar) (l : List Al) (r : Rg) : Bool := goodR rs && (goodA l && isRg r)
theorem takeOk_at {rs : List Ar} {l : List Al} {r : Rg} (h : takeOk rs l r = true) : goodR rs = true ∧ goodA l = true ∧ isRg r = true := by simpa [takeOk] using h
theorem takeL_small {rs : List Ar} {l : List Al} {r : Rg} (h : goodA l = true) (hr : isRg r = true) : (takeL rs l r).length ≤ 1048577 := by
  have := goodA_len (goodA_ord.2 (takeL_ord (rs := rs) (r := r) (goodA_ord.1 h) hr))
  omega
theorem iTakeR_bad (rs : List Ar) (l : List Al) (r : Rg) (hrl : rs.length ≤ 1048577) (hl : l.length ≤ 1048577) (hg : takeOk rs l r = false) (c0 c1 : Nat) (H : Heap) (t0 t1 : Nat) (hR : Sl arE H t0 rs) (hS : Sl alE H t1 l) :
    AFunC Tryd.prog 37 [.slice (some ⟨t0, 0, none⟩) rs.length c0, .slice (some ⟨t1, 0, none⟩) l.length c1, .agg #[.int .i64 r.1, .int .i64 r.2.1, .int .i64 r.2.2]] H (.tuple #[.slice none 0 0, .bool false]) H := by
  refine AFunC.of_body Tryd.func37 (by kernel_rfl) rfl (by kernel_rfl) (by simp [Tryd.ntmps37]) ?_
  have ht0 := hR.lt
  have ht1 := hS.lt
  simp -dsimp -implicitDefEqProofs (disch := omega) [go_sem, -List.getD_eq_getElem?_getD, ite_yes]
  refine ACall.of (iAreRules_A rs hrl _ _ _ hR.app) ?_
  cases h1 : goodR rs
  · simp -dsimp -implicitDefEqProofs (disch := omega) [go_sem, -List.getD_eq_getElem?_getD, ite_yes]
    exact fin_flat rfl rfl
  simp -dsimp -implicitDefEqProofs (disch := omega) [go_sem, -List.getD_eq_getElem?_getD, ite_yes]
  refine ACall.of (areAlarms_A l hl _ _ _ hS.app) ?_
  cases h2 : goodA l
  · simp -dsimp -implicitDefEqProofs (disch := omega) [go_sem, -List.getD_eq_getElem?_getD, ite_yes]
    exact fin_flat rfl rfl
  simp -dsimp -implicitDefEqProofs (disch := omega) [go_sem, -List.getD_eq_getElem?_getD, ite_yes]
  refine ACall.of (isNodeReading_A r _) ?_
  cases h3 : isRg r
  · simp -dsimp -implicitDefEqProofs (disch := omega) [go_sem, -List.getD_eq_getElem?_getD, ite_yes]
    exact fin_flat rfl rfl
  · simp [takeOk, h1, h2, h3] at hg
theorem iTakeR_good (rs : List Ar) (l : List Al) (r : Rg) (hrl : rs.length ≤ 1048577) (hl : l.length ≤ 1048577) (hg : takeOk rs l r = true) (c0 c1 : Nat) (H : Heap) (t0 t1 : Nat) (hR : Sl arE H t0 rs) (hS : Sl alE H t1 l) :
    AFunC Tryd.prog 37 [.slice (some ⟨t0, 0, none⟩) rs.length c0, .slice (some ⟨t1, 0, none⟩) l.length c1, .agg #[.int .i64 r.1, .int .i64 r.2.1, .int .i64 r.2.2]] H (.tuple #[.slice (some ⟨H.length, 0, none⟩) (takeL rs l r).length (takeL rs l r).length, .bool true]) (H ++ [some ⟨(takeL rs l r).flatMap alE, true, 67, 4⟩]) := by
  refine AFunC.of_body Tryd.func37 (by kernel_rfl) rfl (by kernel_rfl) (by simp [Tryd.ntmps37]) ?_
  have ht0 := hR.lt
  have ht1 := hS.lt
  obtain ⟨h1, h2, h3⟩ := takeOk_at hg
  simp -dsimp -implicitDefEqProofs (disch := omega) [go_sem, -List.getD_eq_getElem?_getD, ite_yes]
  refine ACall.of (iAreRules_A rs hrl _ _ _ hR.app) ?_
  simp -dsimp -implicitDefEqProofs (disch := omega) [go_sem, -List.getD_eq_getElem?_getD, ite_yes, h1]
  refine ACall.of (areAlarms_A l hl _ _ _ hS.app) ?_
  simp -dsimp -implicitDefEqProofs (disch := omega) [go_sem, -List.getD_eq_getElem?_getD, ite_yes, h2]
  refine ACall.of (isNodeReading_A r _) ?_
  simp -dsimp -implicitDefEqProofs (disch := omega) [go_sem, -List.getD_eq_getElem?_getD, ite_yes, h3]
  refine ACall.of (iTake_A rs l r.1 r.2.1 r.2.2 hrl h1 (goodA_ord.1 h2) (goodA_len h2) _ _ _ _ _ hR.app hS.app) ?_
  simp -dsimp -implicitDefEqProofs (disch := omega) [go_sem, -List.getD_eq_getElem?_getD, ite_yes]
  refine fin_list [some 1] rfl ?_ (by simp -dsimp -implicitDefEqProofs (disch := omega) [go_sem, -List.getD_eq_getElem?_getD, ite_yes])
  simp -dsimp -implicitDefEqProofs (disch := omega) [go_sem, -List.getD_eq_getElem?_getD, ite_yes]
  exact .inl ⟨rfl, alE_flat _⟩
theorem sTakeR_bad (rs : List Ar) (l : List Al) (r : Rg) (hrl : rs.length ≤ 1048577) (hl : l.length ≤ 1048577) (hg : takeOk rs l r = false) (c0 c1 : Nat) (H : Heap) (t0 t1 : Nat) (hR : Sl arE H t0 rs) (hS : Sl alE H t1 l) :
    AFunC Tryd.prog 38 [.slice (some ⟨t0, 0, none⟩) rs.length c0, .slice (some ⟨t1, 0, none⟩) l.length c1, .agg #[.int .i64 r.1, .int .i64 r.2.1, .int .i64 r.2.2]] H (.tuple #[.slice (some ⟨H.length, 0, none⟩) 0 0, .bool false]) (H ++ [some ⟨[], true, 67, 4⟩]) := by
  refine AFunC.of_body Tryd.func38 (by kernel_rfl) rfl (by kernel_rfl) (by simp [Tryd.ntmps38]) ?_
  have ht0 := hR.lt
  have ht1 := hS.lt
  simp -dsimp -implicitDefEqProofs (disch := omega) [go_sem, -List.getD_eq_getElem?_getD, ite_yes]
  refine ACall.of (l21Rules_A rs hrl _ _ _ hR.app) ?_
  cases h1 : goodR rs
  · simp -dsimp -implicitDefEqProofs (disch := omega) [go_sem, -List.getD_eq_getElem?_getD, ite_yes]
    refine fin_list [some 1] rfl ?_ (by simp -dsimp -implicitDefEqProofs (disch := omega) [go_sem, -List.getD_eq_getElem?_getD, ite_yes])
    simp -dsimp -implicitDefEqProofs (disch := omega) [go_sem, -List.getD_eq_getElem?_getD, ite_yes]
    exact .inl ⟨rfl, rfl⟩
  simp -dsimp -implicitDefEqProofs (disch := omega) [go_sem, -List.getD_eq_getElem?_getD, ite_yes]
  refine ACall.of (l21Alarms_A l hl _ _ _ hS.app) ?_
  cases h2 : goodA l
  · simp -dsimp -implicitDefEqProofs (disch := omega) [go_sem, -List.getD_eq_getElem?_getD, ite_yes]
    refine fin_list [some 1] rfl ?_ (by simp -dsimp -implicitDefEqProofs (disch := omega) [go_sem, -List.getD_eq_getElem?_getD, ite_yes])
    simp -dsimp -implicitDefEqProofs (disch := omega) [go_sem, -List.getD_eq_getElem?_getD, ite_yes]
    exact .inl ⟨rfl, rfl⟩
  simp -dsimp -implicitDefEqProofs (disch := omega) [go_sem, -List.getD_eq_getElem?_getD, ite_yes]
  refine ACall.of (l21Reading_A r _) ?_
  cases h3 : isRg r
  · simp -dsimp -implicitDefEqProofs (disch := omega) [go_sem, -List.getD_eq_getElem?_getD, ite_yes]
    refine fin_list [some 1] rfl ?_ (by simp -dsimp -implicitDefEqProofs (disch := omega) [go_sem, -List.getD_eq_getElem?_getD, ite_yes])
    simp -dsimp -implicitDefEqProofs (disch := omega) [go_sem, -List.getD_eq_getElem?_getD, ite_yes]
    exact .inl ⟨rfl, rfl⟩
  · simp [takeOk, h1, h2, h3] at hg
theorem sTakeR_good (rs : List Ar) (l : List Al) (r : Rg) (hrl : rs.length ≤ 1048577) (hl : l.length ≤ 1048577) (hg : takeOk rs l r = true) (c0 c1 : Nat) (H : Heap) (t0 t1 : Nat) (hR : Sl arE H t0 rs) (hS : Sl alE H t1 l) (hz : blkSz H t1 = some 4) :
    AFunC Tryd.prog 38 [.slice (some ⟨t0, 0, none⟩) rs.length c0, .slice (some ⟨t1, 0, none⟩) l.length c1, .agg #[.int .i64 r.1, .int .i64 r.2.1, .int .i64 r.2.2]] H (.tuple #[.slice (some ⟨H.length, 0, none⟩) (takeL rs l r).length (takeL rs l r).length, .bool true]) (H ++ [some ⟨(takeL rs l r).flatMap alE, true, 67, 4⟩]) := by
  refine AFunC.of_body Tryd.func38 (by kernel_rfl) rfl (by kernel_rfl) (by simp [Tryd.ntmps38]) ?_
  have ht0 := hR.lt
  have ht1 := hS.lt
  obtain ⟨h1, h2, h3⟩ := takeOk_at hg
  simp -dsimp -implicitDefEqProofs (disch := omega) [go_sem, -List.getD_eq_getElem?_getD, ite_yes]
  refine ACall.of (l21Rules_A rs hrl _ _ _ hR.app) ?_
  simp -dsimp -implicitDefEqProofs (disch := omega) [go_sem, -List.getD_eq_getElem?_getD, ite_yes, h1]
  refine ACall.of (l21Alarms_A l hl _ _ _ hS.app) ?_
  simp -dsimp -implicitDefEqProofs (disch := omega) [go_sem, -List.getD_eq_getElem?_getD, ite_yes, h2]
  refine ACall.of (l21Reading_A r _) ?_
  simp -dsimp -implicitDefEqProofs (disch := omega) [go_sem, -List.getD_eq_getElem?_getD, ite_yes, h3]
  refine ACall.of (sTake_A rs l r.1 r.2.1 r.2.2 hrl h1 (goodA_ord.1 h2) (goodA_len h2) _ _ _ _ _ hR.app hS.app (by rw [blkSz_old ht1]; exact hz)) ?_
  simp -dsimp -implicitDefEqProofs (disch := omega) [go_sem, -List.getD_eq_getElem?_getD, ite_yes]
  refine fin_list [some 1] rfl ?_ (by simp -dsimp -implicitDefEqProofs (disch := omega) [go_sem, -List.getD_eq_getElem?_getD, ite_yes])
  simp -dsimp -implicitDefEqProofs (disch := omega) [go_sem, -List.getD_eq_getElem?_getD, ite_yes]
  exact .inl ⟨rfl, alE_flat _⟩
end Go.Proofs.YthnnbgggfpempaaDoor
