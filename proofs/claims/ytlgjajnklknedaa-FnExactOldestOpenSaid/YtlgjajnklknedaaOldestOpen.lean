/- OldestOpen: both sides, and the law. -/
import Derived.Test.YtlgjajnklknedaaBills
import Derived.Test.YtlgjajnklknedaaReminder
namespace Go.Proofs.Ytlgjajnklknedaa
open Go.Am
set_option linter.unusedVariables false
set_option linter.unusedSimpArgs false
set_option maxRecDepth 100000

/-- the first place where p holds, or -1 -/
def findTo {α : Type} (d : α) (p : α → Bool) (l : List α) (k : Nat) : Prop := ∀ i, i < k → p (l.getD i d) = false
inductive Found {α : Type} (d : α) (p : α → Bool) (l : List α) : Int → Prop
  | yes (i : Nat) (h1 : i < l.length) (h2 : p (l.getD i d) = true) (h3 : findTo d p l i) : Found d p l i
  | no (h : findTo d p l l.length) : Found d p l (-1)
theorem found_ex {α : Type} (d : α) (p : α → Bool) (l : List α) : ∀ (m k : Nat), l.length - k = m → findTo d p l k → k ≤ l.length → ∃ i, Found d p l i
  | 0, k, h1, h2, h3 => ⟨-1, .no (by rwa [show l.length = k by omega])⟩
  | m + 1, k, h1, h2, h3 => by
    cases hp : p (l.getD k d)
    · refine found_ex d p l m (k + 1) (by omega) (fun i hi => ?_) (by omega)
      rcases Nat.lt_or_ge i k with h | h
      · exact h2 i h
      · rw [show i = k by omega]; exact hp
    · exact ⟨k, .yes k (by omega) hp h2⟩
theorem found_uniq {α : Type} {d : α} {p : α → Bool} {l : List α} {i j : Int} (h : Found d p l i) (k : Found d p l j) : i = j := by
  cases h with
  | yes i h1 h2 h3 => cases k with
    | yes j k1 k2 k3 =>
      rcases Nat.lt_trichotomy i j with h | h | h
      · have := k3 i h; rw [h2] at this; cases this
      · rw [h]
      · have := h3 j h; rw [k2] at this; cases this
    | no k => have := k i h1; rw [h2] at this; cases this
  | no h => cases k with
    | yes j k1 k2 k3 => have := h j k1; rw [k2] at this; cases this
    | no k => rfl
theorem findTo.next {α : Type} {d : α} {p : α → Bool} {l : List α} {k : Nat} (h : findTo d p l k) (hp : p (l.getD k d) = false) : findTo d p l (k + 1) := fun i hi => by
  rcases Nat.lt_or_ge i k with h' | h'
  · exact h i h'
  · rw [show i = k by omega]; exact hp
theorem indexFuncBl_A (l : List Bl) (p : Bl → Bool) (g : Nat) (cap : Array Value) (r : Int) (hr : Found (0, 0, 0, 0) p l r) (hl : l.length ≤ 1048577) (c : Nat) (H : Heap) (t : Nat) (hS : Sl blE H t l) (hc : L2 (WMP (sg H.length []) H.length) cap.toList cap.toList)
    (hp : ∀ b : Bl, AFunC Try.prog g (.agg #[.int .i64 b.1, .int .i64 b.2.1, .int .i64 b.2.2.1, .int .i64 b.2.2.2] :: cap.toList) H (.bool (p b)) H) :
    AFunC Try.prog 58 [.slice (some ⟨t, 0, none⟩) l.length c, .func (.func g) #[] cap] H (.int .i64 r) H := by
  refine AFunC.of_body Try.func58 (by kernel_rfl) rfl (by kernel_rfl) (by simp [Try.ntmps58]) ?_
  have ht := hS.lt
  have cs := fun k hk => hS.cells (s := 4) (fun _ => rfl) (0, 0, 0, 0) k hk
  simp only [blE] at cs
  simp -dsimp -implicitDefEqProofs (disch := omega) [go_sem, -List.getD_eq_getElem?_getD, ite_yes]
  refine ALoop.intro (ι := Nat) (fun k => k ≤ l.length ∧ findTo (0, 0, 0, 0) p l k) (fun k => [(0, .slice (some ⟨t, 0, none⟩) l.length c), (1, .func (.func g) #[] cap), (7, .int .i64 l.length), (8, .int .i64 k)]) (fun _ => H) (fun k => l.length - k) 0 ⟨by omega, fun i hi => by omega⟩ ?_ ?_
  · exact weakS_same (by simp -dsimp -implicitDefEqProofs (disch := omega) [go_sem, -List.getD_eq_getElem?_getD, ite_yes, ht]; simpa using hc)
  · rintro k ⟨hk, hf⟩
    by_cases hlt : k < l.length
    · simp -dsimp -implicitDefEqProofs (disch := omega) [go_sem, -List.getD_eq_getElem?_getD, ite_yes, hlt, cs]
      refine ACall.of (hp (l.getD k (0, 0, 0, 0))) ?_
      simp -dsimp -implicitDefEqProofs (disch := omega) [go_sem, -List.getD_eq_getElem?_getD, ite_yes]
      refine AIf.of (fun h => ?_) (fun h => ?_)
      · simp -dsimp -implicitDefEqProofs (disch := omega) [go_sem, -List.getD_eq_getElem?_getD, ite_yes]
        have := found_uniq hr (.yes k hlt h hf)
        exact fin_flat0 rfl (by rw [this])
      · simp -dsimp -implicitDefEqProofs (disch := omega) [go_sem, -List.getD_eq_getElem?_getD, ite_yes]
        exact LoopEnd.of (k + 1) ⟨by omega, hf.next h⟩ (by omega) (weakS_same (by simp -dsimp -implicitDefEqProofs (disch := omega) [go_sem, -List.getD_eq_getElem?_getD, ite_yes, ht]; simpa using hc))
    · simp -dsimp -implicitDefEqProofs (disch := omega) [go_sem, -List.getD_eq_getElem?_getD, ite_yes, hlt]
      obtain rfl : k = l.length := by omega
      have := found_uniq hr (.no hf)
      exact fin_flat0 rfl (by rw [this])
theorem oldF_A (r : Bl) (H : Heap) : AFunC Try.prog 59 [.agg #[.int .i64 r.1, .int .i64 r.2.1, .int .i64 r.2.2.1, .int .i64 r.2.2.2]] H (.bool (decide (r.2.2.2 < r.2.2.1))) H := by
  refine AFunC.of_body Try.func59 (by kernel_rfl) rfl (by kernel_rfl) (by simp [Try.ntmps59]) ?_
  simp -dsimp -implicitDefEqProofs (disch := omega) [go_sem, -List.getD_eq_getElem?_getD, ite_yes]
  exact fin_flat rfl rfl
def isOpenB (r : Bl) : Bool := decide (r.2.2.2 < r.2.2.1)
def oldOk (l : List Bl) (r : Int) : Bool := goodB l && decide (0 ≤ r)
def oldN (l : List Bl) (r : Int) : Int := if oldOk l r = true then (l.getD r.toNat (0, 0, 0, 0)).1 else 0
theorem iOld_A (l : List Bl) (r : Int) (hr : Found (0, 0, 0, 0) isOpenB l r) (hl : l.length ≤ 1048577) (c : Nat) (H : Heap) (t : Nat) (hS : Sl blE H t l) :
    AFunC Try.prog 25 [.slice (some ⟨t, 0, none⟩) l.length c] H (.tuple #[.int .i64 (oldN l r), .bool (oldOk l r)]) H := by
  refine AFunC.of_body Try.func25 (by kernel_rfl) rfl (by kernel_rfl) (by simp [Try.ntmps25]) ?_
  have ht := hS.lt
  have cs0 := fun k hk => hS.cell (s := 4) (fun _ => rfl) (0, 0, 0, 0) k 0 hk (by omega)
  simp only [blE, Nat.add_zero] at cs0
  simp -dsimp -implicitDefEqProofs (disch := omega) [go_sem, -List.getD_eq_getElem?_getD, ite_yes]
  refine ACall.of (indexFuncBl_A l isOpenB 59 #[] r hr hl c H t hS trivial (fun b => oldF_A b H)) ?_
  simp -dsimp -implicitDefEqProofs (disch := omega) [go_sem, -List.getD_eq_getElem?_getD, ite_yes]
  refine ACall.of (iValidBills_A l hl c H t hS) ?_
  cases hg : goodB l
  · simp -dsimp -implicitDefEqProofs (disch := omega) [go_sem, -List.getD_eq_getElem?_getD, ite_yes]
    exact fin_flat0 rfl (by simp [oldN, oldOk, hg])
  cases hr with
  | yes i h1 h2 h3 =>
    have h0 : ¬ (i : Int) < 0 := by omega
    have cs1 := cs0 i h1
    simp -dsimp -implicitDefEqProofs (disch := omega) [go_sem, -List.getD_eq_getElem?_getD, ite_yes, h0, h1, cs1]
    exact fin_flat0 rfl (by simp [oldN, oldOk, hg])
  | no h =>
    simp -dsimp -implicitDefEqProofs (disch := omega) [go_sem, -List.getD_eq_getElem?_getD, ite_yes]
    exact fin_flat0 rfl (by simp [oldN, oldOk, hg])
theorem sOld_A (l : List Bl) (r : Int) (hr : Found (0, 0, 0, 0) isOpenB l r) (hl : l.length ≤ 1048577) (c : Nat) (H : Heap) (t : Nat) (hS : Sl blE H t l) :
    AFunC Try.prog 24 [.slice (some ⟨t, 0, none⟩) l.length c] H (.tuple #[.int .i64 (oldN l r), .bool (oldOk l r)]) H := by
  refine AFunC.of_body Try.func24 (by kernel_rfl) rfl (by kernel_rfl) (by simp [Try.ntmps24]) ?_
  have ht := hS.lt
  have cs := fun k hk => hS.cells (s := 4) (fun _ => rfl) (0, 0, 0, 0) k hk
  have cs0 := fun k hk => hS.cell (s := 4) (fun _ => rfl) (0, 0, 0, 0) k 0 hk (by omega)
  simp only [blE, Nat.add_zero] at cs0 cs
  simp -dsimp -implicitDefEqProofs (disch := omega) [go_sem, -List.getD_eq_getElem?_getD, ite_yes]
  refine ACall.of (l20Good_A l hl c H t hS) ?_
  cases hg : goodB l
  · simp -dsimp -implicitDefEqProofs (disch := omega) [go_sem, -List.getD_eq_getElem?_getD, ite_yes]
    exact fin_flat0 rfl (by simp [oldN, oldOk, hg])
  simp -dsimp -implicitDefEqProofs (disch := omega) [go_sem, -List.getD_eq_getElem?_getD, ite_yes]
  refine ALoop.intro (ι := Nat) (fun k => k ≤ l.length ∧ findTo (0, 0, 0, 0) isOpenB l k) (fun k => [(0, .slice (some ⟨t, 0, none⟩) l.length c), (4, .int .i64 k)]) (fun _ => H) (fun k => l.length - k) 0 ⟨by omega, fun i hi => by omega⟩ ?_ ?_
  · exact weakS_same (by simp -dsimp -implicitDefEqProofs (disch := omega) [go_sem, -List.getD_eq_getElem?_getD, ite_yes, ht])
  · rintro k ⟨hk, hf⟩
    by_cases hlt : k < l.length
    · simp -dsimp -implicitDefEqProofs (disch := omega) [go_sem, -List.getD_eq_getElem?_getD, ite_yes, hlt, cs]
      refine ACall.of (l20Open_A (l.getD k (0, 0, 0, 0)) _) ?_
      simp -dsimp -implicitDefEqProofs (disch := omega) [go_sem, -List.getD_eq_getElem?_getD, ite_yes]
      refine AIf.of (fun h => ?_) (fun h => ?_)
      · simp -dsimp -implicitDefEqProofs (disch := omega) [go_sem, -List.getD_eq_getElem?_getD, ite_yes, hlt, cs0]
        have := found_uniq hr (.yes k hlt h hf)
        exact fin_flat0 rfl (by simp [oldN, oldOk, hg, this])
      · simp -dsimp -implicitDefEqProofs (disch := omega) [go_sem, -List.getD_eq_getElem?_getD, ite_yes]
        exact LoopEnd.of (k + 1) ⟨by omega, hf.next h⟩ (by omega) (weakS_same (by simp -dsimp -implicitDefEqProofs (disch := omega) [go_sem, -List.getD_eq_getElem?_getD, ite_yes, ht]))
    · simp -dsimp -implicitDefEqProofs (disch := omega) [go_sem, -List.getD_eq_getElem?_getD, ite_yes, hlt]
      obtain rfl : k = l.length := by omega
      have := found_uniq hr (.no hf)
      exact fin_flat0 rfl (by simp [oldN, oldOk, hg, this])
theorem lawOldestOpen_A (l : List Bl) (hl0 : l.length ≤ 9223372036854775807) (c0 : Nat) (H : Heap) (t0 : Nat) (hS0 : Sl blE H t0 l) :
    AFunC Try.prog 6 [.slice (some ⟨t0, 0, none⟩) l.length c0] H (.bool true) H := by
  refine AFunC.of_body Try.func6 (by kernel_rfl) rfl (by kernel_rfl) (by simp [Try.ntmps6]) ?_
  have ht0 := hS0.lt
  simp -dsimp -implicitDefEqProofs (disch := omega) [go_sem, -List.getD_eq_getElem?_getD, ite_yes, ht0]
  refine ACall.of (szBl_A l.length c0 (by omega) _ (by omega) (by omega) t0 _) ?_
  simp -dsimp -implicitDefEqProofs (disch := omega) [go_sem, -List.getD_eq_getElem?_getD, ite_yes, ht0]
  refine AIf.of (fun h => ?_) (fun h => ?_)
  · simp -dsimp -implicitDefEqProofs (disch := omega) [go_sem, -List.getD_eq_getElem?_getD, ite_yes]
    first | exact fin_flat0 rfl rfl | exact fin_flat rfl rfl
  have hlen0 : l.length ≤ 1048577 := by
    have := szBl_len (by simpa using h)
    omega
  simp -dsimp -implicitDefEqProofs (disch := omega) [go_sem, -List.getD_eq_getElem?_getD, ite_yes, ht0]
  obtain ⟨r, hr⟩ := found_ex (0, 0, 0, 0) isOpenB l l.length 0 (by omega) (fun i hi => by omega) (by omega)
  refine ACall.of (toBlS_A l hlen0 c0 _ t0 hS0) ?_
  simp -dsimp -implicitDefEqProofs (disch := omega) [go_sem, -List.getD_eq_getElem?_getD, ite_yes, ht0]
  refine ACall.of (sOld_A l r hr hlen0 _ _ _ (Sl.of rfl)) ?_
  simp -dsimp -implicitDefEqProofs (disch := omega) [go_sem, -List.getD_eq_getElem?_getD, ite_yes, ht0]
  refine ACall.of (toBlS_A l hlen0 c0 _ t0 hS0.app) ?_
  simp -dsimp -implicitDefEqProofs (disch := omega) [go_sem, -List.getD_eq_getElem?_getD, ite_yes, ht0]
  refine ACall.of (iOld_A l r hr hlen0 _ _ _ (Sl.nth 1 rfl rfl)) ?_
  simp -dsimp -implicitDefEqProofs (disch := omega) [go_sem, -List.getD_eq_getElem?_getD, ite_yes, ht0]
  refine ACall.of (toBlS_A l hlen0 c0 _ t0 hS0.app) ?_
  simp -dsimp -implicitDefEqProofs (disch := omega) [go_sem, -List.getD_eq_getElem?_getD, ite_yes, ht0]
  refine ACall.of (eqBlS_A l l hlen0 hlen0 _ _ _ _ _ (Sl.nth 1 rfl rfl) (Sl.nth 2 rfl rfl)) ?_
  simp -dsimp -implicitDefEqProofs (disch := omega) [go_sem, -List.getD_eq_getElem?_getD, ite_yes, ht0]
  exact fin_flat rfl rfl
end Go.Proofs.Ytlgjajnklknedaa
