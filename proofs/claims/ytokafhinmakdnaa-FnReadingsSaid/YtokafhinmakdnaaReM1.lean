/- AlarmHoursLaw, AlarmHours, TakeRs, UnSort, TakeLaw, UnSeen, UnSeen2, in one text. -/
import Derived.Test.YtokafhinmakdnaaRules
import Derived.Test.YtokafhinmakdnaaTakeRd
import Derived.Test.YtokafhinmakdnaaFrac
import Derived.Test.YtokafhinmakdnaaTakeP
import Derived.Test.YtokafhinmakdnaaAm15
import Derived.Test.YtokafhinmakdnaaRecNm
/- AlarmHours: the plain law. -/
namespace Go.Proofs.Ytokafhinmakdnaa
open Go.Am
set_option linter.unusedVariables false

/-- hours, kind, since: after the first k readings, as the reference counts -/
def hsS (r : Ar) (to : Int) (l : List Rg) : Nat → Int × Int × Int
  | 0 => (0, 0, 0)
  | k + 1 => if (l.getD k (0, 0, 0)).2.1 ≠ r.1 ∨ to < (l.getD k (0, 0, 0)).1 then hsS r to l k else
    (if (hsS r to l k).2.1 ≠ 0 then (hsS r to l k).1 + (l.getD k (0, 0, 0)).1 - (hsS r to l k).2.2 else (hsS r to l k).1, kindN r (hsS r to l k).2.1 (l.getD k (0, 0, 0)).2.2, (l.getD k (0, 0, 0)).1)
/-- the same, as the program counts -/
def hsI (r : Ar) (to : Int) (l : List Rg) : Nat → Int × Int × Int
  | 0 => (0, 0, 0)
  | k + 1 => if (l.getD k (0, 0, 0)).2.1 ≠ r.1 then hsI r to l k else
    (if (hsI r to l k).2.1 ≠ 0 then (hsI r to l k).1 + max (min (l.getD k (0, 0, 0)).1 to - (hsI r to l k).2.2) 0 else (hsI r to l k).1, kindN r (hsI r to l k).2.1 (l.getD k (0, 0, 0)).2.2, (l.getD k (0, 0, 0)).1)
def finS (s : Int × Int × Int) (to : Int) : Int := if s.2.1 ≠ 0 then s.1 + to - s.2.2 else s.1
def finI (s : Int × Int × Int) (to : Int) : Int := if s.2.1 ≠ 0 then s.1 + max (to - s.2.2) 0 else s.1
def rgR (a b : Rg) : Bool := decide (a.1 ≤ b.1)
def goodRg (l : List Rg) : Bool := asc (0, 0, 0) isRg rgR l
theorem goodRg_at {l : List Rg} (h : goodRg l = true) {i : Nat} (hi : i < l.length) : 0 ≤ (l.getD i (0, 0, 0)).1 ∧ (l.getD i (0, 0, 0)).1 ≤ 9999 := by
  have := (asc_at h i hi).1
  simp only [isRg, inB, Bool.and_eq_true, decide_eq_true_eq] at this
  exact this.1
theorem goodRg_mono {l : List Rg} (h : goodRg l = true) : ∀ (d i : Nat), i + d < l.length → (l.getD i (0, 0, 0)).1 ≤ (l.getD (i + d) (0, 0, 0)).1
  | 0, i, _ => Int.le_refl _
  | d + 1, i, hi => by
    have ih := goodRg_mono h d i (by omega)
    have := (asc_at h (i + d + 1) (by omega)).2 (by omega)
    rw [Nat.add_sub_cancel] at this
    have := of_decide_eq_true this
    rw [show i + (d + 1) = i + d + 1 by omega]
    omega
inductive HsInv (r : Ar) (to : Int) (l : List Rg) (k : Nat) : Prop
  | same (h1 : hsI r to l k = hsS r to l k) (h2 : (hsS r to l k).2.2 ≤ to) (h3 : ∀ j, k ≤ j → j < l.length → (hsS r to l k).2.2 ≤ (l.getD j (0, 0, 0)).1)
  | past (h1 : (hsI r to l k).1 = finS (hsS r to l k) to) (h2 : to < (hsI r to l k).2.2) (h3 : ∀ j, k ≤ j → j < l.length → to < (l.getD j (0, 0, 0)).1)
theorem hsInv {r : Ar} {to : Int} {l : List Rg} (hg : goodRg l = true) (h0 : 0 ≤ to) : ∀ k, k ≤ l.length → HsInv r to l k
  | 0, _ => .same rfl (by simpa [hsS] using h0) (fun j _ hj => by have := goodRg_at hg hj; simp only [hsS]; omega)
  | k + 1, hk => by
    have ih := hsInv (r := r) hg h0 k (by omega)
    have hm : ∀ j, k + 1 ≤ j → j < l.length → (l.getD k (0, 0, 0)).1 ≤ (l.getD j (0, 0, 0)).1 := fun j h1 h2 => by
      have := goodRg_mono hg (j - k) k (by omega)
      rwa [show k + (j - k) = j by omega] at this
    by_cases hn : (l.getD k (0, 0, 0)).2.1 ≠ r.1
    · have e1 : hsS r to l (k + 1) = hsS r to l k := by simp only [hsS]; rw [if_pos (.inl hn)]
      have e2 : hsI r to l (k + 1) = hsI r to l k := by simp only [hsI]; rw [if_pos hn]
      cases ih with
      | same h1 h2 h3 => exact .same (by rw [e1, e2, h1]) (by rw [e1]; exact h2) (fun j a b => by rw [e1]; exact h3 j (by omega) b)
      | past h1 h2 h3 => exact .past (by rw [e1, e2, h1]) (by rw [e2]; exact h2) (fun j a b => h3 j (by omega) b)
    · have e2 : hsI r to l (k + 1) = (if (hsI r to l k).2.1 ≠ 0 then (hsI r to l k).1 + max (min (l.getD k (0, 0, 0)).1 to - (hsI r to l k).2.2) 0 else (hsI r to l k).1, kindN r (hsI r to l k).2.1 (l.getD k (0, 0, 0)).2.2, (l.getD k (0, 0, 0)).1) := by
        simp only [hsI]; rw [if_neg hn]
      by_cases ht : to < (l.getD k (0, 0, 0)).1
      · have e1 : hsS r to l (k + 1) = hsS r to l k := by simp only [hsS]; rw [if_pos (.inr ht)]
        refine .past ?_ (by rw [e2]; exact ht) (fun j a b => by have := hm j a b; omega)
        rw [e1, e2]
        simp only
        cases ih with
        | same h1 h2 h3 =>
          rw [h1]
          unfold finS
          split <;> omega
        | past h1 h2 h3 =>
          rw [← h1]
          split <;> omega
      · have e1 : hsS r to l (k + 1) = (if (hsS r to l k).2.1 ≠ 0 then (hsS r to l k).1 + (l.getD k (0, 0, 0)).1 - (hsS r to l k).2.2 else (hsS r to l k).1, kindN r (hsS r to l k).2.1 (l.getD k (0, 0, 0)).2.2, (l.getD k (0, 0, 0)).1) := by
          simp only [hsS]; rw [if_neg (by intro h; rcases h with h | h; exact hn h; exact ht h)]
        cases ih with
        | past h1 h2 h3 => have := h3 k (by omega) (by omega); omega
        | same h1 h2 h3 =>
          have h4 := h3 k (by omega) (by omega)
          refine .same ?_ (by rw [e1]; simp only; omega) (fun j a b => by rw [e1]; exact hm j a b)
          rw [e1, e2, h1]
          congr 1
          split <;> omega
theorem hours_eq {r : Ar} {to : Int} {l : List Rg} (hg : goodRg l = true) (h0 : 0 ≤ to) : finI (hsI r to l l.length) to = finS (hsS r to l l.length) to := by
  cases hsInv (r := r) hg h0 l.length (Nat.le_refl _) with
  | same h1 h2 h3 =>
    rw [h1]
    unfold finI finS
    split <;> omega
  | past h1 h2 h3 =>
    rw [← h1]
    unfold finI
    split <;> omega
theorem hsI_bound {r : Ar} {to : Int} {l : List Rg} (hg : goodRg l = true) (h0 : 0 ≤ to) (h1 : to ≤ 9999) : ∀ k, k ≤ l.length → 0 ≤ (hsI r to l k).1 ∧ (hsI r to l k).1 ≤ 9999 * k ∧ 0 ≤ (hsI r to l k).2.2 ∧ (hsI r to l k).2.2 ≤ 9999
  | 0, _ => by simp [hsI]
  | k + 1, hk => by
    have ih := hsI_bound (r := r) hg h0 h1 k (by omega)
    have g := goodRg_at hg (show k < l.length by omega)
    simp only [hsI]
    split
    · omega
    · refine ⟨?_, ?_, g.1, g.2⟩ <;> simp only <;> split <;> omega
theorem hsS_bound {r : Ar} {to : Int} {l : List Rg} (hg : goodRg l = true) (h0 : 0 ≤ to) (h1 : to ≤ 9999) : ∀ k, k ≤ l.length → -9999 * k ≤ (hsS r to l k).1 ∧ (hsS r to l k).1 ≤ 9999 * k ∧ 0 ≤ (hsS r to l k).2.2 ∧ (hsS r to l k).2.2 ≤ 9999
  | 0, _ => by simp [hsS]
  | k + 1, hk => by
    have ih := hsS_bound (r := r) hg h0 h1 k (by omega)
    have g := goodRg_at hg (show k < l.length by omega)
    simp only [hsS]
    split
    · omega
    · refine ⟨?_, ?_, g.1, g.2⟩ <;> simp only <;> split <;> omega
end Go.Proofs.Ytokafhinmakdnaa
/- AlarmHours: both sides, and the law. -/
namespace Go.Proofs.Ytokafhinmakdnaa
open Go.Am
set_option linter.unusedVariables false
set_option linter.unusedSimpArgs false
set_option maxRecDepth 100000
set_option maxHeartbeats 1000000

def listOk (l : List Rg) : Bool := goodRg l && decide (l.length ≤ 20)
abbrev goodRgTo (l : List Rg) (k : Nat) : Prop := ascTo (0, 0, 0) isRg rgR l k
theorem areNodeReadings_A (l : List Rg) (hl : l.length ≤ 1048577) (c : Nat) (H : Heap) (t : Nat) (hS : Sl rgE H t l) :
    AFunC Try.prog 50 [.slice (some ⟨t, 0, none⟩) l.length c] H (.bool (listOk l)) H := by
  refine AFunC.of_body Try.func50 (by kernel_rfl) rfl (by kernel_rfl) (by simp [Try.ntmps50]) ?_
  have ht := hS.lt
  have cs := fun k hk => hS.cells (s := 3) (fun _ => rfl) (0, 0, 0) k hk
  have csk := fun k hk => hS.cell (s := 3) (fun _ => rfl) (0, 0, 0) k 0 hk (by omega)
  simp only [Nat.add_zero, rgE] at csk cs
  simp -dsimp -implicitDefEqProofs (disch := omega) [go_sem, -List.getD_eq_getElem?_getD, ite_yes]
  by_cases h20 : l.length ≤ 20
  · have h20' : ¬ (20 : Int) < (l.length : Int) := by omega
    have h20'' : ¬ 20 < l.length := by omega
    simp -dsimp -implicitDefEqProofs (disch := omega) [go_sem, -List.getD_eq_getElem?_getD, ite_yes, h20', h20'']
    refine ALoop.intro (ι := Nat) (fun k => k ≤ l.length ∧ goodRgTo l k) (fun k => [(0, .slice (some ⟨t, 0, none⟩) l.length c), (8, .slice (some ⟨t, 0, none⟩) l.length c), (9, .int .i64 l.length), (10, .int .i64 k)]) (fun _ => H) (fun k => l.length - k) 0 ⟨by omega, ascTo_zero⟩ ?_ ?_
    · exact weakS_same (by simp -dsimp -implicitDefEqProofs (disch := omega) [go_sem, -List.getD_eq_getElem?_getD, ite_yes, ht])
    · rintro k ⟨hk, hg⟩
      by_cases hlt : k < l.length
      · simp -dsimp -implicitDefEqProofs (disch := omega) [go_sem, -List.getD_eq_getElem?_getD, ite_yes, hlt, cs, ht]
        refine ADraw.quiet (by kernel_rfl) (by kernel_rfl) (by kernel_rfl) ?_
        simp -dsimp -implicitDefEqProofs (disch := omega) [go_sem, -List.getD_eq_getElem?_getD, ite_yes, hlt, cs, csk, ht]
        refine ACallQ.of (isNodeReading_A (l.getD k (0, 0, 0)) _) rfl ?_
        simp -dsimp -implicitDefEqProofs (disch := omega) [go_sem, -List.getD_eq_getElem?_getD, ite_yes, hlt, cs, csk, ht]
        refine AIf.of (fun h1 => ?_) (fun h1 => ?_)
        · simp -dsimp -implicitDefEqProofs (disch := omega) [go_sem, -List.getD_eq_getElem?_getD, ite_yes, hlt, cs, csk]
          exact fin_flat rfl (by simp only [listOk, goodRg]; rw [asc_no hlt (.inl (by simpa using h1))]; rfl)
        · simp -dsimp -implicitDefEqProofs (disch := omega) [go_sem, -List.getD_eq_getElem?_getD, ite_yes, hlt, cs, csk]
          refine AIf.of (fun h2 => ?_) (fun h2 => ?_)
          · simp at h2
            simp -dsimp -implicitDefEqProofs (disch := omega) [go_sem, -List.getD_eq_getElem?_getD, ite_yes, hlt, cs, csk, ht]
            refine AIf.of (fun h3 => ?_) (fun h3 => ?_)
            · simp -dsimp -implicitDefEqProofs (disch := omega) [go_sem, -List.getD_eq_getElem?_getD, ite_yes, hlt, cs, csk]
              exact fin_flat rfl (by simp only [listOk, goodRg]; rw [asc_no hlt (.inr ⟨h2, by simpa [rgR] using h3⟩)]; rfl)
            · simp -dsimp -implicitDefEqProofs (disch := omega) [go_sem, -List.getD_eq_getElem?_getD, ite_yes, hlt, cs, csk]
              exact LoopEnd.of (k + 1) ⟨by omega, hg.next (by simpa using h1) fun _ => by simpa [rgR] using h3⟩ (by omega) (weakS_drop (by simp -dsimp -implicitDefEqProofs (disch := omega) [go_sem, -List.getD_eq_getElem?_getD, ite_yes, ht]))
          · simp at h2
            simp -dsimp -implicitDefEqProofs (disch := omega) [go_sem, -List.getD_eq_getElem?_getD, ite_yes, hlt, cs, csk]
            exact LoopEnd.of (k + 1) ⟨by omega, hg.next (by simpa using h1) fun h => by omega⟩ (by omega) (weakS_drop (by simp -dsimp -implicitDefEqProofs (disch := omega) [go_sem, -List.getD_eq_getElem?_getD, ite_yes, ht]))
      · simp -dsimp -implicitDefEqProofs (disch := omega) [go_sem, -List.getD_eq_getElem?_getD, ite_yes, hlt]
        obtain rfl : k = l.length := by omega
        exact fin_flat0 rfl (by simp only [listOk, goodRg]; rw [asc_yes hg, decide_eq_true h20]; rfl)
  · have h20' : (20 : Int) < (l.length : Int) := by omega
    have h20'' : 20 < l.length := by omega
    simp -dsimp -implicitDefEqProofs (disch := omega) [go_sem, -List.getD_eq_getElem?_getD, ite_yes, h20', h20'']
    exact fin_flat0 rfl (by simp only [listOk]; rw [decide_eq_false h20, Bool.and_false])
theorem l21List_A (l : List Rg) (hl : l.length ≤ 1048577) (c : Nat) (H : Heap) (t : Nat) (hS : Sl rgE H t l) :
    AFunC Try.prog 49 [.slice (some ⟨t, 0, none⟩) l.length c] H (.bool (listOk l)) H := by
  refine AFunC.of_body Try.func49 (by kernel_rfl) rfl (by kernel_rfl) (by simp [Try.ntmps49]) ?_
  have ht := hS.lt
  have cs := fun k hk => hS.cells (s := 3) (fun _ => rfl) (0, 0, 0) k hk
  have csk := fun k hk => hS.cell (s := 3) (fun _ => rfl) (0, 0, 0) k 0 hk (by omega)
  simp only [Nat.add_zero, rgE] at csk cs
  simp -dsimp -implicitDefEqProofs (disch := omega) [go_sem, -List.getD_eq_getElem?_getD, ite_yes]
  refine ALoop.intro (ι := Nat) (fun k => k ≤ l.length ∧ k ≤ 21 ∧ goodRgTo l k) (fun k => [(0, .slice (some ⟨t, 0, none⟩) l.length c), (3, .int .i64 k)]) (fun _ => H) (fun k => l.length - k) 0 ⟨by omega, by omega, ascTo_zero⟩ ?_ ?_
  · exact weakS_same (by simp -dsimp -implicitDefEqProofs (disch := omega) [go_sem, -List.getD_eq_getElem?_getD, ite_yes, ht])
  · rintro k ⟨hk, hk2, hg⟩
    by_cases hlt : k < l.length
    · by_cases h20 : k ≤ 20
      · have h20' : (k : Int) ≤ 20 := by omega
        simp -dsimp -implicitDefEqProofs (disch := omega) [go_sem, -List.getD_eq_getElem?_getD, ite_yes, hlt, h20, h20', cs, ht]
        refine ADraw.quiet (by kernel_rfl) (by kernel_rfl) (by kernel_rfl) ?_
        simp -dsimp -implicitDefEqProofs (disch := omega) [go_sem, -List.getD_eq_getElem?_getD, ite_yes, hlt, cs, csk, ht]
        refine ACallQ.of (l21Reading_A (l.getD k (0, 0, 0)) _) rfl ?_
        simp -dsimp -implicitDefEqProofs (disch := omega) [go_sem, -List.getD_eq_getElem?_getD, ite_yes, hlt, cs, csk, ht]
        refine AIf.of (fun h1 => ?_) (fun h1 => ?_)
        · simp -dsimp -implicitDefEqProofs (disch := omega) [go_sem, -List.getD_eq_getElem?_getD, ite_yes, hlt, cs, csk]
          exact fin_flat0 rfl (by simp only [listOk, goodRg]; rw [asc_no hlt (.inl (by simpa using h1))]; rfl)
        · simp -dsimp -implicitDefEqProofs (disch := omega) [go_sem, -List.getD_eq_getElem?_getD, ite_yes, hlt, cs, csk]
          refine AIf.of (fun h2 => ?_) (fun h2 => ?_)
          · simp at h2
            simp -dsimp -implicitDefEqProofs (disch := omega) [go_sem, -List.getD_eq_getElem?_getD, ite_yes, hlt, cs, csk, ht]
            refine AIf.of (fun h3 => ?_) (fun h3 => ?_)
            · simp -dsimp -implicitDefEqProofs (disch := omega) [go_sem, -List.getD_eq_getElem?_getD, ite_yes, hlt, cs, csk]
              exact fin_flat0 rfl (by simp only [listOk, goodRg]; rw [asc_no hlt (.inr ⟨h2, by simpa [rgR] using h3⟩)]; rfl)
            · simp -dsimp -implicitDefEqProofs (disch := omega) [go_sem, -List.getD_eq_getElem?_getD, ite_yes, hlt, cs, csk]
              exact LoopEnd.of (k + 1) ⟨by omega, by omega, hg.next (by simpa using h1) fun _ => by simpa [rgR] using h3⟩ (by omega) (weakS_same (by simp -dsimp -implicitDefEqProofs (disch := omega) [go_sem, -List.getD_eq_getElem?_getD, ite_yes, ht]))
          · simp at h2
            simp -dsimp -implicitDefEqProofs (disch := omega) [go_sem, -List.getD_eq_getElem?_getD, ite_yes, hlt, cs, csk]
            exact LoopEnd.of (k + 1) ⟨by omega, by omega, hg.next (by simpa using h1) fun h => by omega⟩ (by omega) (weakS_same (by simp -dsimp -implicitDefEqProofs (disch := omega) [go_sem, -List.getD_eq_getElem?_getD, ite_yes, ht]))
      · have h20' : ¬ (k : Int) ≤ 20 := by omega
        have h21 : ¬ l.length ≤ 20 := by omega
        have h21' : ¬ (l.length : Int) ≤ 20 := by omega
        simp -dsimp -implicitDefEqProofs (disch := omega) [go_sem, -List.getD_eq_getElem?_getD, ite_yes, hlt, h20, h20', h21, h21']
        exact fin_flat0 rfl (by simp only [listOk]; rw [decide_eq_false h21, Bool.and_false])
    · simp -dsimp -implicitDefEqProofs (disch := omega) [go_sem, -List.getD_eq_getElem?_getD, ite_yes, hlt]
      obtain rfl : k = l.length := by omega
      by_cases h20 : l.length ≤ 20
      · have h20' : (l.length : Int) ≤ 20 := by omega
        exact fin_flat0 rfl (by simp only [listOk, goodRg]; rw [asc_yes hg]; simp [h20, h20'])
      · exact fin_flat0 rfl (by simp only [listOk]; rw [decide_eq_false h20, Bool.and_false]; simp; omega)
def ahOk (r : Ar) (l : List Rg) (to : Int) : Bool := isRl r && (listOk l && inB to 0 9999)
def ahN (r : Ar) (l : List Rg) (to : Int) : Int := finS (hsS r to l l.length) to
structure AhAt (r : Ar) (l : List Rg) (to : Int) : Prop where
  f_rule : ruleOk r
  f_list : goodRg l = true
  f_len : l.length ≤ 20
  f_to : 0 ≤ to ∧ to ≤ 9999
theorem AhAt.of {r : Ar} {l : List Rg} {to : Int} (h : ahOk r l to = true) : AhAt r l to := by
  simp only [ahOk, listOk, inB, Bool.and_eq_true, decide_eq_true_eq] at h
  exact ⟨of_decide_eq_true h.1, h.2.1.1, h.2.1.2, h.2.2⟩
theorem iHours_bad (r : Ar) (l : List Rg) (to : Int) (hl : l.length ≤ 1048577) (hg : ahOk r l to = false) (c : Nat) (H : Heap) (t : Nat) (hS : Sl rgE H t l) :
    AFunC Try.prog 28 [ruleV r, .slice (some ⟨t, 0, none⟩) l.length c, .int .i64 to] H (.tuple #[.int .i64 0, .bool false]) H := by
  refine AFunC.of_body Try.func28 (by kernel_rfl) rfl (by kernel_rfl) (by simp [Try.ntmps28]) ?_
  have ht := hS.lt
  simp -dsimp -implicitDefEqProofs (disch := omega) [go_sem, -List.getD_eq_getElem?_getD, ite_yes]
  refine ACall.of (isRule_A r _) ?_
  cases g1 : isRl r
  · simp -dsimp -implicitDefEqProofs (disch := omega) [go_sem, -List.getD_eq_getElem?_getD, ite_yes]
    exact fin_flat rfl rfl
  simp -dsimp -implicitDefEqProofs (disch := omega) [go_sem, -List.getD_eq_getElem?_getD, ite_yes]
  refine ACall.of (areNodeReadings_A l hl c _ t hS.app) ?_
  cases g2 : listOk l
  · simp -dsimp -implicitDefEqProofs (disch := omega) [go_sem, -List.getD_eq_getElem?_getD, ite_yes]
    exact fin_flat rfl rfl
  have g3 : inB to 0 9999 = false := by simpa [ahOk, g1, g2] using hg
  simp -dsimp -implicitDefEqProofs (disch := omega) [go_sem, -List.getD_eq_getElem?_getD, ite_yes]
  refine ACall.of (isAlarmHour_A _ _) ?_
  simp -dsimp -implicitDefEqProofs (disch := omega) [go_sem, -List.getD_eq_getElem?_getD, ite_yes, g3]
  exact fin_flat rfl rfl
theorem sHours_bad (r : Ar) (l : List Rg) (to : Int) (hl : l.length ≤ 1048577) (hg : ahOk r l to = false) (c : Nat) (H : Heap) (t : Nat) (hS : Sl rgE H t l) :
    AFunC Try.prog 29 [ruleV r, .slice (some ⟨t, 0, none⟩) l.length c, .int .i64 to] H (.tuple #[.int .i64 0, .bool false]) H := by
  refine AFunC.of_body Try.func29 (by kernel_rfl) rfl (by kernel_rfl) (by simp [Try.ntmps29]) ?_
  have ht := hS.lt
  simp -dsimp -implicitDefEqProofs (disch := omega) [go_sem, -List.getD_eq_getElem?_getD, ite_yes]
  refine ACall.of (l21Rule_A r _) ?_
  cases g1 : isRl r
  · simp -dsimp -implicitDefEqProofs (disch := omega) [go_sem, -List.getD_eq_getElem?_getD, ite_yes]
    exact fin_flat rfl rfl
  simp -dsimp -implicitDefEqProofs (disch := omega) [go_sem, -List.getD_eq_getElem?_getD, ite_yes]
  refine ACall.of (l21List_A l hl c _ t hS.app) ?_
  cases g2 : listOk l
  · simp -dsimp -implicitDefEqProofs (disch := omega) [go_sem, -List.getD_eq_getElem?_getD, ite_yes]
    exact fin_flat rfl rfl
  have g3 : inB to 0 9999 = false := by simpa [ahOk, g1, g2] using hg
  simp -dsimp -implicitDefEqProofs (disch := omega) [go_sem, -List.getD_eq_getElem?_getD, ite_yes]
  refine ACall.of (l21Hour_A _ _) ?_
  simp -dsimp -implicitDefEqProofs (disch := omega) [go_sem, -List.getD_eq_getElem?_getD, ite_yes, g3]
  exact fin_flat rfl rfl
theorem iHours_good (r : Ar) (l : List Rg) (to : Int) (hl : l.length ≤ 1048577) (hg : ahOk r l to = true) (c : Nat) (H : Heap) (t : Nat) (hS : Sl rgE H t l) :
    AFunC Try.prog 28 [ruleV r, .slice (some ⟨t, 0, none⟩) l.length c, .int .i64 to] H (.tuple #[.int .i64 (ahN r l to), .bool true]) H := by
  refine AFunC.of_body Try.func28 (by kernel_rfl) rfl (by kernel_rfl) (by simp [Try.ntmps28]) ?_
  have ht := hS.lt
  have h := AhAt.of hg
  have h20 := h.f_len
  have hto := h.f_to
  simp only [ahOk, Bool.and_eq_true] at hg
  obtain ⟨g1, g2, g3⟩ := hg
  have cs := fun k hk => hS.cells (s := 3) (fun _ => rfl) (0, 0, 0) k hk
  have cs0 := fun k hk => hS.cell (s := 3) (fun _ => rfl) (0, 0, 0) k 0 hk (by omega)
  have cs1 := fun k hk => hS.cell (s := 3) (fun _ => rfl) (0, 0, 0) k 1 hk (by omega)
  have cs2 := fun k hk => hS.cell (s := 3) (fun _ => rfl) (0, 0, 0) k 2 hk (by omega)
  simp only [Nat.add_zero, rgE] at cs cs0 cs1 cs2
  simp -dsimp -implicitDefEqProofs (disch := omega) [go_sem, -List.getD_eq_getElem?_getD, ite_yes]
  refine ACall.of (isRule_A r _) ?_
  simp -dsimp -implicitDefEqProofs (disch := omega) [go_sem, -List.getD_eq_getElem?_getD, ite_yes, g1]
  refine ACall.of (areNodeReadings_A l hl c _ t hS.app) ?_
  simp -dsimp -implicitDefEqProofs (disch := omega) [go_sem, -List.getD_eq_getElem?_getD, ite_yes, g2]
  refine ACall.of (isAlarmHour_A _ _) ?_
  simp -dsimp -implicitDefEqProofs (disch := omega) [go_sem, -List.getD_eq_getElem?_getD, ite_yes, g3]
  refine ALoop.intro (ι := Nat) (fun k => k ≤ l.length) (fun k => [(2, .int .i64 to), (3, .pointer (some ⟨H.length, 0, none⟩)), (8, .int .i64 (hsI r to l k).2.1), (9, .int .i64 (hsI r to l k).2.2), (10, .int .i64 (hsI r to l k).1), (26, .slice (some ⟨t, 0, none⟩) l.length c), (27, .int .i64 l.length), (28, .int .i64 k)])
    (fun _ => H ++ [some ⟨[.int .i64 r.1, .int .i64 r.2.1, .int .i64 r.2.2.1, .int .i64 r.2.2.2], true, 54, 1⟩]) (fun k => l.length - k) 0 (by omega) ?_ ?_
  · refine weakS_mk [some 0] rfl ?_ (by simp -dsimp -implicitDefEqProofs (disch := omega) [go_sem, -List.getD_eq_getElem?_getD, ite_yes, ht, hsI])
    simp -dsimp -implicitDefEqProofs (disch := omega) [go_sem, -List.getD_eq_getElem?_getD, ite_yes]
    exact .inl ⟨rfl, rfl⟩
  · intro k hk
    have hb := hsI_bound (r := r) h.f_list hto.1 hto.2 k hk
    by_cases hlt : k < l.length
    · have cs' := cs k hlt
      have hx := goodRg_at h.f_list hlt
      by_cases hn : (l.getD k (0, 0, 0)).2.1 = r.1
      · have e : hsI r to l (k + 1) = (if (hsI r to l k).2.1 ≠ 0 then (hsI r to l k).1 + max (min (l.getD k (0, 0, 0)).1 to - (hsI r to l k).2.2) 0 else (hsI r to l k).1, kindN r (hsI r to l k).2.1 (l.getD k (0, 0, 0)).2.2, (l.getD k (0, 0, 0)).1) := by
          simp only [hsI]; rw [if_neg (by simpa using hn)]
        generalize hsI r to l k = s at *
        generalize l.getD k (0, 0, 0) = x at *
        by_cases hk0 : s.2.1 = 0
        · rw [if_neg (by simpa using hk0)] at e
          simp -dsimp -implicitDefEqProofs (disch := omega) [go_sem, -List.getD_eq_getElem?_getD, ite_yes, hlt, ht, cs', hn, hk0]
          refine ADraw.quiet (by kernel_rfl) (by kernel_rfl) (by kernel_rfl) ?_
          simp -dsimp -implicitDefEqProofs (disch := omega) [go_sem, -List.getD_eq_getElem?_getD, ite_yes, hk0]
          refine ACallQ.of (kindAfter_A r _ _ h.f_rule _) rfl ?_
          simp -dsimp -implicitDefEqProofs (disch := omega) [go_sem, -List.getD_eq_getElem?_getD, ite_yes, hk0]
          refine LoopEnd.of (k + 1) (by omega) (by omega) (weakS_mk [some 0] rfl ?_ (by simp -dsimp -implicitDefEqProofs (disch := omega) [go_sem, -List.getD_eq_getElem?_getD, ite_yes, ht, e, hk0]))
          simp -dsimp -implicitDefEqProofs (disch := omega) [go_sem, -List.getD_eq_getElem?_getD, ite_yes]
          exact .inl ⟨rfl, rfl⟩
        · rw [if_pos hk0] at e
          have m1 : (if (if to < x.1 then to else x.1) - s.2.2 < 0 then 0 else (if to < x.1 then to else x.1) - s.2.2) = max (min x.1 to - s.2.2) 0 := by split <;> split <;> omega
          have m2 : (if (if to < x.1 then to else x.1) - s.2.2 < 0 then (0 : Int) else (if to < x.1 then to else x.1) - s.2.2) = max (min x.1 to - s.2.2) 0 := m1
          simp -dsimp -implicitDefEqProofs (disch := omega) [go_sem, -List.getD_eq_getElem?_getD, ite_yes, hlt, ht, cs', hn, hk0, m1]
          refine ADraw.quiet (by kernel_rfl) (by kernel_rfl) (by kernel_rfl) ?_
          simp -dsimp -implicitDefEqProofs (disch := omega) [go_sem, -List.getD_eq_getElem?_getD, ite_yes]
          refine ACallQ.of (kindAfter_A r _ _ h.f_rule _) rfl ?_
          simp -dsimp -implicitDefEqProofs (disch := omega) [go_sem, -List.getD_eq_getElem?_getD, ite_yes]
          refine LoopEnd.of (k + 1) (by omega) (by omega) (weakS_mk [some 0] rfl ?_ (by simp -dsimp -implicitDefEqProofs (disch := omega) [go_sem, -List.getD_eq_getElem?_getD, ite_yes, ht, e]))
          simp -dsimp -implicitDefEqProofs (disch := omega) [go_sem, -List.getD_eq_getElem?_getD, ite_yes]
          exact .inl ⟨rfl, rfl⟩
      · have e : hsI r to l (k + 1) = hsI r to l k := by simp only [hsI]; rw [if_pos hn]
        simp -dsimp -implicitDefEqProofs (disch := omega) [go_sem, -List.getD_eq_getElem?_getD, ite_yes, hlt, ht, cs', hn]
        refine LoopEnd.of (k + 1) (by omega) (by omega) (weakS_mk [some 0] rfl ?_ (by simp -dsimp -implicitDefEqProofs (disch := omega) [go_sem, -List.getD_eq_getElem?_getD, ite_yes, ht, e]))
        simp -dsimp -implicitDefEqProofs (disch := omega) [go_sem, -List.getD_eq_getElem?_getD, ite_yes]
        exact .inl ⟨rfl, rfl⟩
    · have hk' : k = l.length := by omega
      have hf := hours_eq (r := r) h.f_list hto.1
      rw [← hk'] at hf
      have hf : finI (hsI r to l k) to = ahN r l to := by rw [hf]; unfold ahN; rw [← hk']
      unfold finI at hf
      rw [← hf]
      generalize hsI r to l k = s at *
      by_cases hk0 : s.2.1 = 0
      · simp -dsimp -implicitDefEqProofs (disch := omega) [go_sem, -List.getD_eq_getElem?_getD, ite_yes, hlt, hk0]
        exact fin_flat rfl (by simp [hk0])
      · have m1 : (if to - s.2.2 < 0 then 0 else to - s.2.2) = max (to - s.2.2) 0 := by split <;> omega
        simp -dsimp -implicitDefEqProofs (disch := omega) [go_sem, -List.getD_eq_getElem?_getD, ite_yes, hlt, hk0, m1]
        exact fin_flat rfl (by simp [hk0])
theorem sHours_good (r : Ar) (l : List Rg) (to : Int) (hl : l.length ≤ 1048577) (hg : ahOk r l to = true) (c : Nat) (H : Heap) (t : Nat) (hS : Sl rgE H t l) :
    AFunC Try.prog 29 [ruleV r, .slice (some ⟨t, 0, none⟩) l.length c, .int .i64 to] H (.tuple #[.int .i64 (ahN r l to), .bool true]) H := by
  refine AFunC.of_body Try.func29 (by kernel_rfl) rfl (by kernel_rfl) (by simp [Try.ntmps29]) ?_
  have ht := hS.lt
  have h := AhAt.of hg
  have h20 := h.f_len
  have hto := h.f_to
  simp only [ahOk, Bool.and_eq_true] at hg
  obtain ⟨g1, g2, g3⟩ := hg
  have cs := fun k hk => hS.cells (s := 3) (fun _ => rfl) (0, 0, 0) k hk
  have cs0 := fun k hk => hS.cell (s := 3) (fun _ => rfl) (0, 0, 0) k 0 hk (by omega)
  have cs1 := fun k hk => hS.cell (s := 3) (fun _ => rfl) (0, 0, 0) k 1 hk (by omega)
  have cs2 := fun k hk => hS.cell (s := 3) (fun _ => rfl) (0, 0, 0) k 2 hk (by omega)
  simp only [Nat.add_zero, rgE] at cs cs0 cs1 cs2
  simp -dsimp -implicitDefEqProofs (disch := omega) [go_sem, -List.getD_eq_getElem?_getD, ite_yes]
  refine ACall.of (l21Rule_A r _) ?_
  simp -dsimp -implicitDefEqProofs (disch := omega) [go_sem, -List.getD_eq_getElem?_getD, ite_yes, g1]
  refine ACall.of (l21List_A l hl c _ t hS.app) ?_
  simp -dsimp -implicitDefEqProofs (disch := omega) [go_sem, -List.getD_eq_getElem?_getD, ite_yes, g2]
  refine ACall.of (l21Hour_A _ _) ?_
  simp -dsimp -implicitDefEqProofs (disch := omega) [go_sem, -List.getD_eq_getElem?_getD, ite_yes, g3]
  refine ALoop.intro (ι := Nat) (fun k => k ≤ l.length) (fun k => [(1, .slice (some ⟨t, 0, none⟩) l.length c), (2, .int .i64 to), (3, .pointer (some ⟨H.length, 0, none⟩)), (8, .int .i64 (hsS r to l k).1), (9, .int .i64 (hsS r to l k).2.1), (10, .int .i64 (hsS r to l k).2.2), (11, .int .i64 k)])
    (fun _ => H ++ [some ⟨[.int .i64 r.1, .int .i64 r.2.1, .int .i64 r.2.2.1, .int .i64 r.2.2.2], true, 54, 1⟩]) (fun k => l.length - k) 0 (by omega) ?_ ?_
  · refine weakS_mk [some 0] rfl ?_ (by simp -dsimp -implicitDefEqProofs (disch := omega) [go_sem, -List.getD_eq_getElem?_getD, ite_yes, ht, hsS])
    simp -dsimp -implicitDefEqProofs (disch := omega) [go_sem, -List.getD_eq_getElem?_getD, ite_yes]
    exact .inl ⟨rfl, rfl⟩
  · intro k hk
    have hb := hsS_bound (r := r) h.f_list hto.1 hto.2 k hk
    by_cases hlt : k < l.length
    · have c0 := cs0 k hlt
      have c1 := cs1 k hlt
      have c2 := cs2 k hlt
      have hx := goodRg_at h.f_list hlt
      by_cases hn : (l.getD k (0, 0, 0)).2.1 = r.1
      · by_cases ht2 : to < (l.getD k (0, 0, 0)).1
        · have e : hsS r to l (k + 1) = hsS r to l k := by simp only [hsS]; rw [if_pos (.inr ht2)]
          simp -dsimp -implicitDefEqProofs (disch := omega) [go_sem, -List.getD_eq_getElem?_getD, ite_yes, hlt, ht]
          refine ADraw.quiet (by kernel_rfl) (by kernel_rfl) (by kernel_rfl) ?_
          simp -dsimp -implicitDefEqProofs (disch := omega) [go_sem, -List.getD_eq_getElem?_getD, ite_yes, hlt, ht, c0, c1, hn, ht2]
          refine LoopEnd.of (k + 1) (by omega) (by omega) (weakS_mk [some 0] rfl ?_ (by simp -dsimp -implicitDefEqProofs (disch := omega) [go_sem, -List.getD_eq_getElem?_getD, ite_yes, ht, e]))
          simp -dsimp -implicitDefEqProofs (disch := omega) [go_sem, -List.getD_eq_getElem?_getD, ite_yes]
          exact .inl ⟨rfl, rfl⟩
        · have e : hsS r to l (k + 1) = (if (hsS r to l k).2.1 ≠ 0 then (hsS r to l k).1 + (l.getD k (0, 0, 0)).1 - (hsS r to l k).2.2 else (hsS r to l k).1, kindN r (hsS r to l k).2.1 (l.getD k (0, 0, 0)).2.2, (l.getD k (0, 0, 0)).1) := by
            simp only [hsS]; rw [if_neg (by intro h; rcases h with h | h; exact h hn; exact ht2 h)]
          generalize hsS r to l k = s at *
          simp -dsimp -implicitDefEqProofs (disch := omega) [go_sem, -List.getD_eq_getElem?_getD, ite_yes, hlt, ht]
          refine ADraw.quiet (by kernel_rfl) (by kernel_rfl) (by kernel_rfl) ?_
          by_cases hk0 : s.2.1 = 0
          · rw [if_neg (by simpa using hk0)] at e
            simp -dsimp -implicitDefEqProofs (disch := omega) [go_sem, -List.getD_eq_getElem?_getD, ite_yes, hlt, ht, c0, c1, hn, ht2, hk0]
            refine ADraw.quiet (by kernel_rfl) (by kernel_rfl) (by kernel_rfl) ?_
            simp -dsimp -implicitDefEqProofs (disch := omega) [go_sem, -List.getD_eq_getElem?_getD, ite_yes, hlt, ht, c2, hk0]
            refine ACallQ.of (l21Kind_A r _ _ h.f_rule _) rfl ?_
            simp -dsimp -implicitDefEqProofs (disch := omega) [go_sem, -List.getD_eq_getElem?_getD, ite_yes, hlt, ht, c0, hk0]
            refine LoopEnd.of (k + 1) (by omega) (by omega) (weakS_mk [some 0] rfl ?_ (by simp -dsimp -implicitDefEqProofs (disch := omega) [go_sem, -List.getD_eq_getElem?_getD, ite_yes, ht, e, hk0]))
            simp -dsimp -implicitDefEqProofs (disch := omega) [go_sem, -List.getD_eq_getElem?_getD, ite_yes]
            exact .inl ⟨rfl, rfl⟩
          · rw [if_pos hk0] at e
            simp -dsimp -implicitDefEqProofs (disch := omega) [go_sem, -List.getD_eq_getElem?_getD, ite_yes, hlt, ht, c0, c1, hn, ht2, hk0]
            refine ADraw.quiet (by kernel_rfl) (by kernel_rfl) (by kernel_rfl) ?_
            simp -dsimp -implicitDefEqProofs (disch := omega) [go_sem, -List.getD_eq_getElem?_getD, ite_yes, hlt, ht, c2]
            refine ACallQ.of (l21Kind_A r _ _ h.f_rule _) rfl ?_
            simp -dsimp -implicitDefEqProofs (disch := omega) [go_sem, -List.getD_eq_getElem?_getD, ite_yes, hlt, ht, c0]
            refine LoopEnd.of (k + 1) (by omega) (by omega) (weakS_mk [some 0] rfl ?_ (by simp -dsimp -implicitDefEqProofs (disch := omega) [go_sem, -List.getD_eq_getElem?_getD, ite_yes, ht, e]))
            simp -dsimp -implicitDefEqProofs (disch := omega) [go_sem, -List.getD_eq_getElem?_getD, ite_yes]
            exact .inl ⟨rfl, rfl⟩
      · have e : hsS r to l (k + 1) = hsS r to l k := by simp only [hsS]; rw [if_pos (.inl hn)]
        simp -dsimp -implicitDefEqProofs (disch := omega) [go_sem, -List.getD_eq_getElem?_getD, ite_yes, hlt, ht]
        refine ADraw.quiet (by kernel_rfl) (by kernel_rfl) (by kernel_rfl) ?_
        simp -dsimp -implicitDefEqProofs (disch := omega) [go_sem, -List.getD_eq_getElem?_getD, ite_yes, hlt, ht, c0, c1, hn]
        refine LoopEnd.of (k + 1) (by omega) (by omega) (weakS_mk [some 0] rfl ?_ (by simp -dsimp -implicitDefEqProofs (disch := omega) [go_sem, -List.getD_eq_getElem?_getD, ite_yes, ht, e]))
        simp -dsimp -implicitDefEqProofs (disch := omega) [go_sem, -List.getD_eq_getElem?_getD, ite_yes]
        exact .inl ⟨rfl, rfl⟩
    · have hk' : k = l.length := by omega
      have hf : finS (hsS r to l k) to = ahN r l to := by unfold ahN; rw [← hk']
      unfold finS at hf
      rw [← hf]
      generalize hsS r to l k = s at *
      by_cases hk0 : s.2.1 = 0
      · simp -dsimp -implicitDefEqProofs (disch := omega) [go_sem, -List.getD_eq_getElem?_getD, ite_yes, hlt, hk0]
        exact fin_flat rfl (by simp [hk0])
      · simp -dsimp -implicitDefEqProofs (disch := omega) [go_sem, -List.getD_eq_getElem?_getD, ite_yes, hlt, hk0]
        exact fin_flat rfl (by simp [hk0])
end Go.Proofs.Ytokafhinmakdnaa
/- TakeReadings: both sides, and the law. -/
namespace Go.Proofs.Ytokafhinmakdnaa
open Go.Am
set_option linter.unusedVariables false
set_option linter.unusedSimpArgs false
set_option maxRecDepth 100000
set_option maxHeartbeats 4000000
abbrev gD : Rg := (0, 0, 0)
noncomputable def takesTo (rs : List Ar) (l : List Al) (m : List Rg) : Nat → List Al
  | 0 => l
  | k + 1 => takeL rs (takesTo rs l m k) (m.getD k gD)
theorem takesTo_ord {rs : List Ar} {l : List Al} {m : List Rg} (h : Ord l) (hm : ∀ k, k < m.length → isRg (m.getD k gD) = true) : ∀ k, k ≤ m.length → Ord (takesTo rs l m k)
  | 0, _ => h
  | k + 1, hk => takeL_ord (takesTo_ord h hm k (by omega)) (hm k (by omega))
theorem listOk_at {m : List Rg} (h : listOk m = true) : ∀ k, k < m.length → isRg (m.getD k gD) = true := fun k hk => by
  simp only [listOk, Bool.and_eq_true] at h
  exact (asc_at (by first | exact h.1 | exact h.2) k hk).1
def takesOk (rs : List Ar) (l : List Al) (m : List Rg) : Bool := goodR rs && (goodA l && listOk m)
theorem takesOk_at {rs : List Ar} {l : List Al} {m : List Rg} (h : takesOk rs l m = true) : goodR rs = true ∧ goodA l = true ∧ listOk m = true := by simpa [takesOk] using h
theorem takesTo_small {rs : List Ar} {l : List Al} {m : List Rg} (h : takesOk rs l m = true) (k : Nat) (hk : k ≤ m.length) : (takesTo rs l m k).length ≤ 8 := by
  obtain ⟨h1, h2, h3⟩ := takesOk_at h
  exact goodA_len (goodA_ord.2 (takesTo_ord (goodA_ord.1 h2) (listOk_at h3) k hk))
theorem iTakes_bad (rs : List Ar) (l : List Al) (m : List Rg) (hrl : rs.length ≤ 1048577) (hl : l.length ≤ 1048577) (hm : m.length ≤ 1048577) (hg : takesOk rs l m = false) (c0 c1 c2 : Nat) (H : Heap) (t0 t1 t2 : Nat) (hR : Sl arE H t0 rs) (hS : Sl alE H t1 l) (hM : Sl rgE H t2 m) :
    AFunC Try.prog 21 [.slice (some ⟨t0, 0, none⟩) rs.length c0, .slice (some ⟨t1, 0, none⟩) l.length c1, .slice (some ⟨t2, 0, none⟩) m.length c2] H (.tuple #[.slice none 0 0, .bool false]) H := by
  refine AFunC.of_body Try.func21 (by kernel_rfl) rfl (by kernel_rfl) (by simp [Try.ntmps21]) ?_
  simp -dsimp -implicitDefEqProofs (disch := omega) [go_sem, -List.getD_eq_getElem?_getD, ite_yes]
  refine ACall.of (iAreRules_A rs hrl _ _ _ hR) ?_
  cases h1 : goodR rs
  · simp -dsimp -implicitDefEqProofs (disch := omega) [go_sem, -List.getD_eq_getElem?_getD, ite_yes]
    exact fin_flat0 rfl rfl
  simp -dsimp -implicitDefEqProofs (disch := omega) [go_sem, -List.getD_eq_getElem?_getD, ite_yes]
  refine ACall.of (areAlarms_A l hl _ _ _ hS) ?_
  cases h2 : goodA l
  · simp -dsimp -implicitDefEqProofs (disch := omega) [go_sem, -List.getD_eq_getElem?_getD, ite_yes]
    exact fin_flat0 rfl rfl
  simp -dsimp -implicitDefEqProofs (disch := omega) [go_sem, -List.getD_eq_getElem?_getD, ite_yes]
  refine ACall.of (areNodeReadings_A m hm _ _ _ hM) ?_
  cases h3 : listOk m
  · simp -dsimp -implicitDefEqProofs (disch := omega) [go_sem, -List.getD_eq_getElem?_getD, ite_yes]
    exact fin_flat0 rfl rfl
  · simp [takesOk, h1, h2, h3] at hg
theorem sTakes_bad (rs : List Ar) (l : List Al) (m : List Rg) (hrl : rs.length ≤ 1048577) (hl : l.length ≤ 1048577) (hm : m.length ≤ 1048577) (hg : takesOk rs l m = false) (c0 c1 c2 : Nat) (H : Heap) (t0 t1 t2 : Nat) (hR : Sl arE H t0 rs) (hS : Sl alE H t1 l) (hM : Sl rgE H t2 m) :
    AFunC Try.prog 19 [.slice (some ⟨t0, 0, none⟩) rs.length c0, .slice (some ⟨t1, 0, none⟩) l.length c1, .slice (some ⟨t2, 0, none⟩) m.length c2] H (.tuple #[.slice (some ⟨H.length, 0, none⟩) 0 0, .bool false]) (H ++ [some ⟨[], true, 74, 4⟩]) := by
  refine AFunC.of_body Try.func19 (by kernel_rfl) rfl (by kernel_rfl) (by simp [Try.ntmps19]) ?_
  simp -dsimp -implicitDefEqProofs (disch := omega) [go_sem, -List.getD_eq_getElem?_getD, ite_yes]
  refine ACall.of (l21Rules_A rs hrl _ _ _ hR) ?_
  cases h1 : goodR rs
  · simp -dsimp -implicitDefEqProofs (disch := omega) [go_sem, -List.getD_eq_getElem?_getD, ite_yes]
    refine fin_list [some 0] rfl ?_ (by simp -dsimp -implicitDefEqProofs (disch := omega) [go_sem, -List.getD_eq_getElem?_getD, ite_yes])
    simp -dsimp -implicitDefEqProofs (disch := omega) [go_sem, -List.getD_eq_getElem?_getD, ite_yes]
    exact .inl ⟨rfl, rfl⟩
  simp -dsimp -implicitDefEqProofs (disch := omega) [go_sem, -List.getD_eq_getElem?_getD, ite_yes]
  refine ACall.of (l21Alarms_A l hl _ _ _ hS) ?_
  cases h2 : goodA l
  · simp -dsimp -implicitDefEqProofs (disch := omega) [go_sem, -List.getD_eq_getElem?_getD, ite_yes]
    refine fin_list [some 0] rfl ?_ (by simp -dsimp -implicitDefEqProofs (disch := omega) [go_sem, -List.getD_eq_getElem?_getD, ite_yes])
    simp -dsimp -implicitDefEqProofs (disch := omega) [go_sem, -List.getD_eq_getElem?_getD, ite_yes]
    exact .inl ⟨rfl, rfl⟩
  simp -dsimp -implicitDefEqProofs (disch := omega) [go_sem, -List.getD_eq_getElem?_getD, ite_yes]
  refine ACall.of (l21List_A m hm _ _ _ hM) ?_
  cases h3 : listOk m
  · simp -dsimp -implicitDefEqProofs (disch := omega) [go_sem, -List.getD_eq_getElem?_getD, ite_yes]
    refine fin_list [some 0] rfl ?_ (by simp -dsimp -implicitDefEqProofs (disch := omega) [go_sem, -List.getD_eq_getElem?_getD, ite_yes])
    simp -dsimp -implicitDefEqProofs (disch := omega) [go_sem, -List.getD_eq_getElem?_getD, ite_yes]
    exact .inl ⟨rfl, rfl⟩
  · simp [takesOk, h1, h2, h3] at hg
theorem iTakes_good (rs : List Ar) (l : List Al) (m : List Rg) (hrl : rs.length ≤ 1048577) (hl : l.length ≤ 1048577) (hm : m.length ≤ 1048577) (hg : takesOk rs l m = true) (c0 c1 c2 : Nat) (H : Heap) (t0 t1 t2 : Nat) (hR : Sl arE H t0 rs) (hS : Sl alE H t1 l) (hM : Sl rgE H t2 m) :
    AFunC Try.prog 21 [.slice (some ⟨t0, 0, none⟩) rs.length c0, .slice (some ⟨t1, 0, none⟩) l.length c1, .slice (some ⟨t2, 0, none⟩) m.length c2] H (.tuple #[.slice (some ⟨H.length, 0, none⟩) (takesTo rs l m m.length).length (takesTo rs l m m.length).length, .bool true]) (H ++ [some ⟨(takesTo rs l m m.length).flatMap alE, true, 74, 4⟩]) := by
  refine AFunC.of_body Try.func21 (by kernel_rfl) rfl (by kernel_rfl) (by simp [Try.ntmps21]) ?_
  have ht0 := hR.lt
  have ht1 := hS.lt
  have ht2 := hM.lt
  obtain ⟨h1, h2, h3⟩ := takesOk_at hg
  have hok := listOk_at h3
  have l8 := goodA_len h2
  have al := hS.all (s := 4) (fun _ => rfl)
  have lf := alE_length l
  have cs := fun k hk => hM.cells (s := 3) (fun _ => rfl) gD k hk
  simp only [rgE] at cs
  simp -dsimp -implicitDefEqProofs (disch := omega) [go_sem, -List.getD_eq_getElem?_getD, ite_yes]
  refine ACall.of (iAreRules_A rs hrl _ _ _ hR) ?_
  simp -dsimp -implicitDefEqProofs (disch := omega) [go_sem, -List.getD_eq_getElem?_getD, ite_yes, h1]
  refine ACall.of (areAlarms_A l hl _ _ _ hS) ?_
  simp -dsimp -implicitDefEqProofs (disch := omega) [go_sem, -List.getD_eq_getElem?_getD, ite_yes, h2]
  refine ACall.of (areNodeReadings_A m hm _ _ _ hM) ?_
  simp -dsimp -implicitDefEqProofs (disch := omega) [go_sem, -List.getD_eq_getElem?_getD, ite_yes, h3, al, lf, ht1]
  refine ⟨by omega, ?_⟩
  refine ALoop.intro (ι := Nat) (fun k => k ≤ m.length) (fun k => [(0, .slice (some ⟨t0, 0, none⟩) rs.length c0), (8, .slice (some ⟨H.length, 0, none⟩) (takesTo rs l m k).length (takesTo rs l m k).length), (27, .slice (some ⟨t2, 0, none⟩) m.length c2), (28, .int .i64 m.length), (29, .int .i64 k)])
    (fun k => H ++ [some ⟨(takesTo rs l m k).flatMap alE, true, 74, 4⟩]) (fun k => m.length - k) 0 (by omega) ?_ ?_
  · refine weakS_mk [some 1] rfl ?_ (by simp -dsimp -implicitDefEqProofs (disch := omega) [go_sem, -List.getD_eq_getElem?_getD, ite_yes, ht0, ht1, ht2, takesTo])
    simp -dsimp -implicitDefEqProofs (disch := omega) [go_sem, -List.getD_eq_getElem?_getD, ite_yes]
    exact .inl ⟨rfl, alE_flat _⟩
  intro k hk
  have e : takesTo rs l m (k + 1) = takeL rs (takesTo rs l m k) (m.getD k gD) := rfl
  have ok := takesTo_ord (rs := rs) (goodA_ord.1 h2) hok k hk
  have t8 := takesTo_small hg k hk
  by_cases hlt : k < m.length
  · have hlti : (k : Int) < (m.length : Int) := by omega
    have c := cs k hlt
    generalize hG : takesTo rs l m k = G at *
    obtain ⟨r, hr⟩ : ∃ r, m.getD k gD = r := ⟨_, rfl⟩
    rw [hr] at c e
    simp -dsimp -implicitDefEqProofs (disch := omega) [go_sem, -List.getD_eq_getElem?_getD, ite_yes, hlt, hlti, c, ht2]
    refine ACall.of (iTake_A rs G r.1 r.2.1 r.2.2 hrl h1 ok (by omega) _ _ _ _ _ hR.app (Sl.of rfl)) ?_
    simp -dsimp -implicitDefEqProofs (disch := omega) [go_sem, -List.getD_eq_getElem?_getD, ite_yes]
    refine LoopEnd.of (k + 1) (by omega) (by omega) (weakS_mk [some 2] rfl ?_ (by simp -dsimp -implicitDefEqProofs (disch := omega) [go_sem, -List.getD_eq_getElem?_getD, ite_yes, ht0, ht1, ht2, e]))
    simp -dsimp -implicitDefEqProofs (disch := omega) [go_sem, -List.getD_eq_getElem?_getD, ite_yes, e]
    exact .inl ⟨rfl, alE_flat _⟩
  · have hlti : ¬ (k : Int) < (m.length : Int) := by omega
    obtain rfl : k = m.length := by omega
    simp -dsimp -implicitDefEqProofs (disch := omega) [go_sem, -List.getD_eq_getElem?_getD, ite_yes, hlti]
    refine fin_list [some 0] rfl ?_ (by simp -dsimp -implicitDefEqProofs (disch := omega) [go_sem, -List.getD_eq_getElem?_getD, ite_yes])
    simp -dsimp -implicitDefEqProofs (disch := omega) [go_sem, -List.getD_eq_getElem?_getD, ite_yes]
    exact .inl ⟨rfl, alE_flat _⟩
theorem sTakes_good (rs : List Ar) (l : List Al) (m : List Rg) (hrl : rs.length ≤ 1048577) (hl : l.length ≤ 1048577) (hm : m.length ≤ 1048577) (hg : takesOk rs l m = true) (c0 c1 c2 : Nat) (H : Heap) (t0 t1 t2 : Nat) (hR : Sl arE H t0 rs) (hS : Sl alE H t1 l) (hM : Sl rgE H t2 m) :
    AFunC Try.prog 19 [.slice (some ⟨t0, 0, none⟩) rs.length c0, .slice (some ⟨t1, 0, none⟩) l.length c1, .slice (some ⟨t2, 0, none⟩) m.length c2] H (.tuple #[.slice (some ⟨H.length, 0, none⟩) (takesTo rs l m m.length).length (takesTo rs l m m.length).length, .bool true]) (H ++ [some ⟨(takesTo rs l m m.length).flatMap alE, true, 74, 4⟩]) := by
  refine AFunC.of_body Try.func19 (by kernel_rfl) rfl (by kernel_rfl) (by simp [Try.ntmps19]) ?_
  have ht0 := hR.lt
  have ht1 := hS.lt
  have ht2 := hM.lt
  obtain ⟨h1, h2, h3⟩ := takesOk_at hg
  have hok := listOk_at h3
  have l8 := goodA_len h2
  have al := hS.all (s := 4) (fun _ => rfl)
  have lf := alE_length l
  have cs := fun k hk => hM.cells (s := 3) (fun _ => rfl) gD k hk
  simp only [rgE] at cs
  simp -dsimp -implicitDefEqProofs (disch := omega) [go_sem, -List.getD_eq_getElem?_getD, ite_yes]
  refine ACall.of (l21Rules_A rs hrl _ _ _ hR) ?_
  simp -dsimp -implicitDefEqProofs (disch := omega) [go_sem, -List.getD_eq_getElem?_getD, ite_yes, h1]
  refine ACall.of (l21Alarms_A l hl _ _ _ hS) ?_
  simp -dsimp -implicitDefEqProofs (disch := omega) [go_sem, -List.getD_eq_getElem?_getD, ite_yes, h2]
  refine ACall.of (l21List_A m hm _ _ _ hM) ?_
  simp -dsimp -implicitDefEqProofs (disch := omega) [go_sem, -List.getD_eq_getElem?_getD, ite_yes, h3, al, lf, ht1]
  refine ⟨by omega, ?_⟩
  refine ALoop.intro (ι := Nat) (fun k => k ≤ m.length) (fun k => [(0, .slice (some ⟨t0, 0, none⟩) rs.length c0), (2, .slice (some ⟨t2, 0, none⟩) m.length c2), (8, .slice (some ⟨H.length, 0, none⟩) (takesTo rs l m k).length (takesTo rs l m k).length), (9, .int .i64 k)])
    (fun k => H ++ [some ⟨(takesTo rs l m k).flatMap alE, true, 74, 4⟩]) (fun k => m.length - k) 0 (by omega) ?_ ?_
  · refine weakS_mk [some 1] rfl ?_ (by simp -dsimp -implicitDefEqProofs (disch := omega) [go_sem, -List.getD_eq_getElem?_getD, ite_yes, ht0, ht1, ht2, takesTo])
    simp -dsimp -implicitDefEqProofs (disch := omega) [go_sem, -List.getD_eq_getElem?_getD, ite_yes]
    exact .inl ⟨rfl, alE_flat _⟩
  intro k hk
  have e : takesTo rs l m (k + 1) = takeL rs (takesTo rs l m k) (m.getD k gD) := rfl
  have ok := takesTo_ord (rs := rs) (goodA_ord.1 h2) hok k hk
  have t8 := takesTo_small hg k hk
  by_cases hlt : k < m.length
  · have hlti : (k : Int) < (m.length : Int) := by omega
    have c := cs k hlt
    generalize hG : takesTo rs l m k = G at *
    obtain ⟨r, hr⟩ : ∃ r, m.getD k gD = r := ⟨_, rfl⟩
    rw [hr] at c e
    simp -dsimp -implicitDefEqProofs (disch := omega) [go_sem, -List.getD_eq_getElem?_getD, ite_yes, hlt, hlti, c, ht2]
    refine ACall.of (sTake_A rs G r.1 r.2.1 r.2.2 hrl h1 ok (by omega) _ _ _ _ _ hR.app (Sl.of rfl) (by rw [blkSz_len]; rfl)) ?_
    simp -dsimp -implicitDefEqProofs (disch := omega) [go_sem, -List.getD_eq_getElem?_getD, ite_yes]
    refine LoopEnd.of (k + 1) (by omega) (by omega) (weakS_mk [some 1] rfl ?_ (by simp -dsimp -implicitDefEqProofs (disch := omega) [go_sem, -List.getD_eq_getElem?_getD, ite_yes, ht0, ht1, ht2, e]))
    simp -dsimp -implicitDefEqProofs (disch := omega) [go_sem, -List.getD_eq_getElem?_getD, ite_yes, e]
    exact .inl ⟨rfl, alE_flat _⟩
  · have hlti : ¬ (k : Int) < (m.length : Int) := by omega
    obtain rfl : k = m.length := by omega
    simp -dsimp -implicitDefEqProofs (disch := omega) [go_sem, -List.getD_eq_getElem?_getD, ite_yes, hlti]
    refine fin_list [some 0] rfl ?_ (by simp -dsimp -implicitDefEqProofs (disch := omega) [go_sem, -List.getD_eq_getElem?_getD, ite_yes])
    simp -dsimp -implicitDefEqProofs (disch := omega) [go_sem, -List.getD_eq_getElem?_getD, ite_yes]
    exact .inl ⟨rfl, alE_flat _⟩
theorem takes_le {rs : List Ar} {l : List Al} {m : List Rg} (h : takesOk rs l m = true) : (takesTo rs l m m.length).length ≤ 1048577 := by
  have := takesTo_small h m.length (Nat.le_refl _)
  omega
theorem lawTakeReadings_A (rs : List Ar) (hl0 : rs.length ≤ 9223372036854775807) (c0 : Nat) (l : List Al) (hl1 : l.length ≤ 9223372036854775807) (c1 : Nat) (m : List Rg) (hl2 : m.length ≤ 9223372036854775807) (c2 : Nat) (H : Heap) (t0 : Nat) (hS0 : Sl arE H t0 rs) (t1 : Nat) (hS1 : Sl alE H t1 l) (t2 : Nat) (hS2 : Sl rgE H t2 m) :
    AFunC Try.prog 4 [.slice (some ⟨t0, 0, none⟩) rs.length c0, .slice (some ⟨t1, 0, none⟩) l.length c1, .slice (some ⟨t2, 0, none⟩) m.length c2] H (.bool true) H := by
  refine AFunC.of_body Try.func4 (by kernel_rfl) rfl (by kernel_rfl) (by simp [Try.ntmps4]) ?_
  have ht0 := hS0.lt
  have ht1 := hS1.lt
  have ht2 := hS2.lt
  simp -dsimp -implicitDefEqProofs (disch := omega) [go_sem, -List.getD_eq_getElem?_getD, ite_yes, ht0, ht1, ht2]
  refine ACall.of (szAr_A rs.length c0 (by omega) _ (by omega) (by omega) t0 _) ?_
  simp -dsimp -implicitDefEqProofs (disch := omega) [go_sem, -List.getD_eq_getElem?_getD, ite_yes, ht0, ht1, ht2]
  refine AIf.of (fun h => ?_) (fun h => ?_)
  · simp -dsimp -implicitDefEqProofs (disch := omega) [go_sem, -List.getD_eq_getElem?_getD, ite_yes]
    first | exact fin_flat0 rfl rfl | exact fin_flat rfl rfl
  have hlen0 : rs.length ≤ 1048577 := by
    have := szAr_len (by simpa using h)
    omega
  simp -dsimp -implicitDefEqProofs (disch := omega) [go_sem, -List.getD_eq_getElem?_getD, ite_yes, ht0, ht1, ht2]
  have hz0 : 0 ≤ szAr rs.length 1048576 ∧ szAr rs.length 1048576 ≤ 1048576 := szAr_rng (by simpa using h) (by omega)
  refine ACall.of (szAl_A l.length c1 (by omega) _ (by omega) (by omega) t1 _) ?_
  simp -dsimp -implicitDefEqProofs (disch := omega) [go_sem, -List.getD_eq_getElem?_getD, ite_yes, ht0, ht1, ht2]
  refine AIf.of (fun h => ?_) (fun h => ?_)
  · simp -dsimp -implicitDefEqProofs (disch := omega) [go_sem, -List.getD_eq_getElem?_getD, ite_yes]
    first | exact fin_flat0 rfl rfl | exact fin_flat rfl rfl
  have hlen1 : l.length ≤ 1048577 := by
    have := szAl_len (by simpa using h)
    omega
  simp -dsimp -implicitDefEqProofs (disch := omega) [go_sem, -List.getD_eq_getElem?_getD, ite_yes, ht0, ht1, ht2]
  have hz1 : 0 ≤ szAl l.length (szAr rs.length 1048576) ∧ szAl l.length (szAr rs.length 1048576) ≤ 1048576 := szAl_rng (by simpa using h) (by omega)
  refine ACall.of (szRg_A m.length c2 (by omega) _ (by omega) (by omega) t2 _) ?_
  simp -dsimp -implicitDefEqProofs (disch := omega) [go_sem, -List.getD_eq_getElem?_getD, ite_yes, ht0, ht1, ht2]
  refine AIf.of (fun h => ?_) (fun h => ?_)
  · simp -dsimp -implicitDefEqProofs (disch := omega) [go_sem, -List.getD_eq_getElem?_getD, ite_yes]
    first | exact fin_flat0 rfl rfl | exact fin_flat rfl rfl
  have hlen2 : m.length ≤ 1048577 := by
    have := szRg_len (by simpa using h)
    omega
  simp -dsimp -implicitDefEqProofs (disch := omega) [go_sem, -List.getD_eq_getElem?_getD, ite_yes, ht0, ht1, ht2]
  rcases Bool.eq_false_or_eq_true (takesOk rs l m) with hg | hg
  · have hu := takes_le hg
    refine ACall.of (toArS_A rs hlen0 c0 _ t0 hS0) ?_
    simp -dsimp -implicitDefEqProofs (disch := omega) [go_sem, -List.getD_eq_getElem?_getD, ite_yes, ht0, ht1, ht2]
    refine ACall.of (toAlS_A l hlen1 c1 _ t1 hS1.app) ?_
    simp -dsimp -implicitDefEqProofs (disch := omega) [go_sem, -List.getD_eq_getElem?_getD, ite_yes, ht0, ht1, ht2]
    refine ACall.of (toRgS_A m hlen2 c2 _ t2 hS2.app) ?_
    simp -dsimp -implicitDefEqProofs (disch := omega) [go_sem, -List.getD_eq_getElem?_getD, ite_yes, ht0, ht1, ht2]
    refine ACall.of (sTakes_good rs l m hlen0 hlen1 hlen2 hg _ _ _ _ _ _ _ (Sl.of rfl) (Sl.nth 1 rfl rfl) (Sl.nth 2 rfl rfl)) ?_
    simp -dsimp -implicitDefEqProofs (disch := omega) [go_sem, -List.getD_eq_getElem?_getD, ite_yes, ht0, ht1, ht2]
    refine ACall.of (toArS_A rs hlen0 c0 _ t0 hS0.app) ?_
    simp -dsimp -implicitDefEqProofs (disch := omega) [go_sem, -List.getD_eq_getElem?_getD, ite_yes, ht0, ht1, ht2]
    refine ACall.of (toAlS_A l hlen1 c1 _ t1 hS1.app) ?_
    simp -dsimp -implicitDefEqProofs (disch := omega) [go_sem, -List.getD_eq_getElem?_getD, ite_yes, ht0, ht1, ht2]
    refine ACall.of (toRgS_A m hlen2 c2 _ t2 hS2.app) ?_
    simp -dsimp -implicitDefEqProofs (disch := omega) [go_sem, -List.getD_eq_getElem?_getD, ite_yes, ht0, ht1, ht2]
    refine ACall.of (iTakes_good rs l m hlen0 hlen1 hlen2 hg _ _ _ _ _ _ _ (Sl.nth 4 rfl rfl) (Sl.nth 5 rfl rfl) (Sl.nth 6 rfl rfl)) ?_
    simp -dsimp -implicitDefEqProofs (disch := omega) [go_sem, -List.getD_eq_getElem?_getD, ite_yes, ht0, ht1, ht2]
    refine ACall.of (eqAlS_A (takesTo rs l m m.length) (takesTo rs l m m.length) hu hu _ _ _ _ _ (Sl.nth 7 rfl rfl) (Sl.nth 3 rfl rfl)) ?_
    simp -dsimp -implicitDefEqProofs (disch := omega) [go_sem, -List.getD_eq_getElem?_getD, ite_yes, ht0, ht1, ht2]
    refine ACall.of (toArS_A rs hlen0 c0 _ t0 hS0.app) ?_
    simp -dsimp -implicitDefEqProofs (disch := omega) [go_sem, -List.getD_eq_getElem?_getD, ite_yes, ht0, ht1, ht2]
    refine ACall.of (eqArS_A rs rs hlen0 hlen0 _ _ _ _ _ (Sl.nth 4 rfl rfl) (Sl.nth 8 rfl rfl)) ?_
    simp -dsimp -implicitDefEqProofs (disch := omega) [go_sem, -List.getD_eq_getElem?_getD, ite_yes, ht0, ht1, ht2]
    refine ACall.of (toAlS_A l hlen1 c1 _ t1 hS1.app) ?_
    simp -dsimp -implicitDefEqProofs (disch := omega) [go_sem, -List.getD_eq_getElem?_getD, ite_yes, ht0, ht1, ht2]
    refine ACall.of (eqAlS_A l l hlen1 hlen1 _ _ _ _ _ (Sl.nth 5 rfl rfl) (Sl.nth 9 rfl rfl)) ?_
    simp -dsimp -implicitDefEqProofs (disch := omega) [go_sem, -List.getD_eq_getElem?_getD, ite_yes, ht0, ht1, ht2]
    refine ACall.of (toRgS_A m hlen2 c2 _ t2 hS2.app) ?_
    simp -dsimp -implicitDefEqProofs (disch := omega) [go_sem, -List.getD_eq_getElem?_getD, ite_yes, ht0, ht1, ht2]
    refine ACall.of (eqRgS_A m m hlen2 hlen2 _ _ _ _ _ (Sl.nth 6 rfl rfl) (Sl.nth 10 rfl rfl)) ?_
    simp -dsimp -implicitDefEqProofs (disch := omega) [go_sem, -List.getD_eq_getElem?_getD, ite_yes, ht0, ht1, ht2]
    refine ACall.of (markArS_A rs hlen0 _ _ _ (by omega) (by omega) _ _ ((Heap.get_len_add _ _ 4).trans rfl)) ?_
    simp -dsimp -implicitDefEqProofs (disch := omega) [go_sem, -List.getD_eq_getElem?_getD, ite_yes, ht0, ht1, ht2]
    refine ACall.of (markAlS_A l hlen1 _ _ _ (by omega) (by omega) _ _ ((Heap.get_len_add _ _ 5).trans rfl)) ?_
    simp -dsimp -implicitDefEqProofs (disch := omega) [go_sem, -List.getD_eq_getElem?_getD, ite_yes, ht0, ht1, ht2]
    refine ACall.of (markRgS_A m hlen2 _ _ _ (by omega) (by omega) _ _ ((Heap.get_len_add _ _ 6).trans rfl)) ?_
    simp -dsimp -implicitDefEqProofs (disch := omega) [go_sem, -List.getD_eq_getElem?_getD, ite_yes, ht0, ht1, ht2]
    refine AIf.of (fun h => absurd (of_decide_eq_true h) (by omega)) (fun _ => ?_)
    simp -dsimp -implicitDefEqProofs (disch := omega) [go_sem, -List.getD_eq_getElem?_getD, ite_yes, ht0, ht1, ht2]
    refine ACall.of (eqAlS_A (takesTo rs l m m.length) (takesTo rs l m m.length) hu hu _ _ _ _ _ (Sl.nth 7 rfl rfl) (Sl.nth 3 rfl rfl)) ?_
    simp -dsimp -implicitDefEqProofs (disch := omega) [go_sem, -List.getD_eq_getElem?_getD, ite_yes, ht0, ht1, ht2]
    refine ACall.of (markAlS_A (takesTo rs l m m.length) hu _ _ _ (by omega) (by omega) _ _ ((Heap.get_len_add _ _ 7).trans rfl)) ?_
    simp -dsimp -implicitDefEqProofs (disch := omega) [go_sem, -List.getD_eq_getElem?_getD, ite_yes, ht0, ht1, ht2]
    refine ACall.of (heldAlS_A _ hu _ _ (by omega) (by omega) _ _ (Sl.nth 7 rfl rfl)) ?_
    simp -dsimp -implicitDefEqProofs (disch := omega) [go_sem, -List.getD_eq_getElem?_getD, ite_yes, ht0, ht1, ht2]
    refine AIf.of (fun h => absurd (of_decide_eq_true h) (by omega)) (fun _ => ?_)
    simp -dsimp -implicitDefEqProofs (disch := omega) [go_sem, -List.getD_eq_getElem?_getD, ite_yes, ht0, ht1, ht2]
    refine ACall.of (toArS_A rs hlen0 c0 _ t0 hS0.app) ?_
    simp -dsimp -implicitDefEqProofs (disch := omega) [go_sem, -List.getD_eq_getElem?_getD, ite_yes, ht0, ht1, ht2]
    refine ACall.of (toAlS_A l hlen1 c1 _ t1 hS1.app) ?_
    simp -dsimp -implicitDefEqProofs (disch := omega) [go_sem, -List.getD_eq_getElem?_getD, ite_yes, ht0, ht1, ht2]
    refine ACall.of (toRgS_A m hlen2 c2 _ t2 hS2.app) ?_
    simp -dsimp -implicitDefEqProofs (disch := omega) [go_sem, -List.getD_eq_getElem?_getD, ite_yes, ht0, ht1, ht2]
    refine ACall.of (iTakes_good rs l m hlen0 hlen1 hlen2 hg _ _ _ _ _ _ _ (Sl.nth 11 rfl rfl) (Sl.nth 12 rfl rfl) (Sl.nth 13 rfl rfl)) ?_
    simp -dsimp -implicitDefEqProofs (disch := omega) [go_sem, -List.getD_eq_getElem?_getD, ite_yes, ht0, ht1, ht2]
    refine ACall.of (eqAlS_A (takesTo rs l m m.length) (takesTo rs l m m.length) hu hu _ _ _ _ _ (Sl.nth 14 rfl rfl) (Sl.nth 3 rfl rfl)) ?_
    simp -dsimp -implicitDefEqProofs (disch := omega) [go_sem, -List.getD_eq_getElem?_getD, ite_yes, ht0, ht1, ht2]
    refine ACall.of (heldAlS_A _ hu _ _ (by omega) (by omega) _ _ (Sl.nth 7 rfl rfl)) ?_
    simp -dsimp -implicitDefEqProofs (disch := omega) [go_sem, -List.getD_eq_getElem?_getD, ite_yes, ht0, ht1, ht2]
    refine AIf.of (fun h => absurd (of_decide_eq_true h) (by omega)) (fun _ => ?_)
    simp -dsimp -implicitDefEqProofs (disch := omega) [go_sem, -List.getD_eq_getElem?_getD, ite_yes, ht0, ht1, ht2]
    exact fin_flat rfl rfl
  · skip
    refine ACall.of (toArS_A rs hlen0 c0 _ t0 hS0) ?_
    simp -dsimp -implicitDefEqProofs (disch := omega) [go_sem, -List.getD_eq_getElem?_getD, ite_yes, ht0, ht1, ht2]
    refine ACall.of (toAlS_A l hlen1 c1 _ t1 hS1.app) ?_
    simp -dsimp -implicitDefEqProofs (disch := omega) [go_sem, -List.getD_eq_getElem?_getD, ite_yes, ht0, ht1, ht2]
    refine ACall.of (toRgS_A m hlen2 c2 _ t2 hS2.app) ?_
    simp -dsimp -implicitDefEqProofs (disch := omega) [go_sem, -List.getD_eq_getElem?_getD, ite_yes, ht0, ht1, ht2]
    refine ACall.of (sTakes_bad rs l m hlen0 hlen1 hlen2 hg _ _ _ _ _ _ _ (Sl.of rfl) (Sl.nth 1 rfl rfl) (Sl.nth 2 rfl rfl)) ?_
    simp -dsimp -implicitDefEqProofs (disch := omega) [go_sem, -List.getD_eq_getElem?_getD, ite_yes, ht0, ht1, ht2]
    refine ACall.of (toArS_A rs hlen0 c0 _ t0 hS0.app) ?_
    simp -dsimp -implicitDefEqProofs (disch := omega) [go_sem, -List.getD_eq_getElem?_getD, ite_yes, ht0, ht1, ht2]
    refine ACall.of (toAlS_A l hlen1 c1 _ t1 hS1.app) ?_
    simp -dsimp -implicitDefEqProofs (disch := omega) [go_sem, -List.getD_eq_getElem?_getD, ite_yes, ht0, ht1, ht2]
    refine ACall.of (toRgS_A m hlen2 c2 _ t2 hS2.app) ?_
    simp -dsimp -implicitDefEqProofs (disch := omega) [go_sem, -List.getD_eq_getElem?_getD, ite_yes, ht0, ht1, ht2]
    refine ACall.of (iTakes_bad rs l m hlen0 hlen1 hlen2 hg _ _ _ _ _ _ _ (Sl.nth 4 rfl rfl) (Sl.nth 5 rfl rfl) (Sl.nth 6 rfl rfl)) ?_
    simp -dsimp -implicitDefEqProofs (disch := omega) [go_sem, -List.getD_eq_getElem?_getD, ite_yes, ht0, ht1, ht2]
    refine ACall.of (eqAlS_nil _ _ _) ?_
    simp -dsimp -implicitDefEqProofs (disch := omega) [go_sem, -List.getD_eq_getElem?_getD, ite_yes, ht0, ht1, ht2]
    refine ACall.of (toArS_A rs hlen0 c0 _ t0 hS0.app) ?_
    simp -dsimp -implicitDefEqProofs (disch := omega) [go_sem, -List.getD_eq_getElem?_getD, ite_yes, ht0, ht1, ht2]
    refine ACall.of (eqArS_A rs rs hlen0 hlen0 _ _ _ _ _ (Sl.nth 4 rfl rfl) (Sl.nth 7 rfl rfl)) ?_
    simp -dsimp -implicitDefEqProofs (disch := omega) [go_sem, -List.getD_eq_getElem?_getD, ite_yes, ht0, ht1, ht2]
    refine ACall.of (toAlS_A l hlen1 c1 _ t1 hS1.app) ?_
    simp -dsimp -implicitDefEqProofs (disch := omega) [go_sem, -List.getD_eq_getElem?_getD, ite_yes, ht0, ht1, ht2]
    refine ACall.of (eqAlS_A l l hlen1 hlen1 _ _ _ _ _ (Sl.nth 5 rfl rfl) (Sl.nth 8 rfl rfl)) ?_
    simp -dsimp -implicitDefEqProofs (disch := omega) [go_sem, -List.getD_eq_getElem?_getD, ite_yes, ht0, ht1, ht2]
    refine ACall.of (toRgS_A m hlen2 c2 _ t2 hS2.app) ?_
    simp -dsimp -implicitDefEqProofs (disch := omega) [go_sem, -List.getD_eq_getElem?_getD, ite_yes, ht0, ht1, ht2]
    refine ACall.of (eqRgS_A m m hlen2 hlen2 _ _ _ _ _ (Sl.nth 6 rfl rfl) (Sl.nth 9 rfl rfl)) ?_
    simp -dsimp -implicitDefEqProofs (disch := omega) [go_sem, -List.getD_eq_getElem?_getD, ite_yes, ht0, ht1, ht2]
    refine ACall.of (markArS_A rs hlen0 _ _ _ (by omega) (by omega) _ _ ((Heap.get_len_add _ _ 4).trans rfl)) ?_
    simp -dsimp -implicitDefEqProofs (disch := omega) [go_sem, -List.getD_eq_getElem?_getD, ite_yes, ht0, ht1, ht2]
    refine ACall.of (markAlS_A l hlen1 _ _ _ (by omega) (by omega) _ _ ((Heap.get_len_add _ _ 5).trans rfl)) ?_
    simp -dsimp -implicitDefEqProofs (disch := omega) [go_sem, -List.getD_eq_getElem?_getD, ite_yes, ht0, ht1, ht2]
    refine ACall.of (markRgS_A m hlen2 _ _ _ (by omega) (by omega) _ _ ((Heap.get_len_add _ _ 6).trans rfl)) ?_
    simp -dsimp -implicitDefEqProofs (disch := omega) [go_sem, -List.getD_eq_getElem?_getD, ite_yes, ht0, ht1, ht2]
    refine AIf.of (fun h => absurd (of_decide_eq_true h) (by omega)) (fun _ => ?_)
    simp -dsimp -implicitDefEqProofs (disch := omega) [go_sem, -List.getD_eq_getElem?_getD, ite_yes, ht0, ht1, ht2]
    refine ACall.of (eqAlS_nil _ _ _) ?_
    simp -dsimp -implicitDefEqProofs (disch := omega) [go_sem, -List.getD_eq_getElem?_getD, ite_yes, ht0, ht1, ht2]
    refine ACall.of (markAlS_nil _ _) ?_
    simp -dsimp -implicitDefEqProofs (disch := omega) [go_sem, -List.getD_eq_getElem?_getD, ite_yes, ht0, ht1, ht2]
    refine ACall.of (heldAlS_nil _ _) ?_
    simp -dsimp -implicitDefEqProofs (disch := omega) [go_sem, -List.getD_eq_getElem?_getD, ite_yes, ht0, ht1, ht2]
    refine ACall.of (toArS_A rs hlen0 c0 _ t0 hS0.app) ?_
    simp -dsimp -implicitDefEqProofs (disch := omega) [go_sem, -List.getD_eq_getElem?_getD, ite_yes, ht0, ht1, ht2]
    refine ACall.of (toAlS_A l hlen1 c1 _ t1 hS1.app) ?_
    simp -dsimp -implicitDefEqProofs (disch := omega) [go_sem, -List.getD_eq_getElem?_getD, ite_yes, ht0, ht1, ht2]
    refine ACall.of (toRgS_A m hlen2 c2 _ t2 hS2.app) ?_
    simp -dsimp -implicitDefEqProofs (disch := omega) [go_sem, -List.getD_eq_getElem?_getD, ite_yes, ht0, ht1, ht2]
    refine ACall.of (iTakes_bad rs l m hlen0 hlen1 hlen2 hg _ _ _ _ _ _ _ (Sl.nth 10 rfl rfl) (Sl.nth 11 rfl rfl) (Sl.nth 12 rfl rfl)) ?_
    simp -dsimp -implicitDefEqProofs (disch := omega) [go_sem, -List.getD_eq_getElem?_getD, ite_yes, ht0, ht1, ht2]
    refine ACall.of (eqAlS_nil _ _ _) ?_
    simp -dsimp -implicitDefEqProofs (disch := omega) [go_sem, -List.getD_eq_getElem?_getD, ite_yes, ht0, ht1, ht2]
    refine ACall.of (heldAlS_nil _ _) ?_
    simp -dsimp -implicitDefEqProofs (disch := omega) [go_sem, -List.getD_eq_getElem?_getD, ite_yes, ht0, ht1, ht2]
    exact fin_flat rfl rfl
end Go.Proofs.Ytokafhinmakdnaa
/- UnseenNodes: the order of the alarms, and the sort. -/
namespace Go.Proofs.Ytokafhinmakdnaa
open Go.Am
set_option linter.unusedVariables false
set_option linter.unusedSimpArgs false
set_option maxRecDepth 100000
set_option maxHeartbeats 4000000

abbrev alD : Al := (0, 0, 0, false)
/-- where an alarm belongs among some: behind the last that is not later, of the first k -/
def posA (L : List Al) (x : Al) : Nat → Nat
  | 0 => 0
  | k + 1 => if x.2.2.1 < (L.getD k alD).2.2.1 then posA L x k else k + 1
theorem posA_le (L : List Al) (x : Al) : ∀ k, posA L x k ≤ k
  | 0 => Nat.le_refl _
  | k + 1 => by have := posA_le L x k; rw [posA]; split <;> omega
def insA (L : List Al) (x : Al) : List Al := L.take (posA L x L.length) ++ x :: L.drop (posA L x L.length)
def ordA (l : List Al) : Nat → List Al
  | 0 => []
  | i + 1 => insA (ordA l i) (l.getD i alD)
theorem insA_length (L : List Al) (x : Al) : (insA L x).length = L.length + 1 := by
  have := posA_le L x L.length
  rw [insA]
  simp only [List.length_append, List.length_take, List.length_cons, List.length_drop]
  omega
theorem ordA_length (l : List Al) : ∀ i, (ordA l i).length = i
  | 0 => rfl
  | i + 1 => by rw [ordA, insA_length, ordA_length l i]
theorem ordA_app (l m : List Al) : ∀ i, i ≤ l.length → ordA (l ++ m) i = ordA l i
  | 0, _ => rfl
  | i + 1, h => by
    rw [ordA, ordA, ordA_app l m i (by omega)]
    congr 1
    rw [List.getD_eq_getElem?_getD, List.getD_eq_getElem?_getD, List.getElem?_append_left (by omega)]
def sortA (l : List Al) : List Al := ordA l l.length
theorem sortA_snoc (l : List Al) (x : Al) : sortA (l ++ [x]) = insA (sortA l) x := by
  unfold sortA
  rw [List.length_append, List.length_singleton, ordA, ordA_app l [x] l.length (Nat.le_refl _)]
  congr 1
  rw [List.getD_eq_getElem?_getD, List.getElem?_append_right (Nat.le_refl _), Nat.sub_self]; rfl
/-- those of the first k that are not seen -/
def unTo (l : List Al) (k : Nat) : List Al := (l.take k).filter fun a => !a.2.2.2
theorem unTo_next {l : List Al} {k : Nat} (h : k < l.length) : unTo l (k + 1) = if (l.getD k alD).2.2.2 = true then unTo l k else unTo l k ++ [l.getD k alD] := by
  unfold unTo
  rw [List.take_succ_eq_append_getElem h, List.filter_append, List.getD_eq_getElem?_getD, List.getElem?_eq_getElem h]
  cases hs : (l[k]).2.2.2 <;> simp [hs]
theorem unTo_length (l : List Al) (k : Nat) : (unTo l k).length ≤ k := by
  unfold unTo
  have := List.length_filter_le (fun a : Al => !a.2.2.2) (l.take k)
  rw [List.length_take] at this
  omega
def unN (l : List Al) : List Int := (sortA (unTo l l.length)).map (·.1)
theorem goodA_small {l : List Al} (h : goodA l = true) : l.length ≤ 8 := by
  have ha := asc_at h
  have key : ∀ i, i < l.length → (i : Int) + 1 ≤ (l.getD i (0, 0, 0, false)).1 ∧ (l.getD i (0, 0, 0, false)).1 ≤ 8 := by
    intro i
    induction i with
    | zero =>
      intro hi
      have h1 := (ha 0 hi).1
      simp only [isAl, inB, Bool.and_eq_true, decide_eq_true_eq] at h1
      omega
    | succ i ih =>
      intro hi
      have h0 := ih (by omega)
      have h1 := (ha (i + 1) hi).1
      have h2 := (ha (i + 1) hi).2 (by omega)
      simp only [isAl, inB, Bool.and_eq_true, decide_eq_true_eq] at h1
      simp only [goodAR, decide_eq_true_eq, Nat.add_sub_cancel] at h2
      omega
  rcases Nat.lt_or_ge 8 l.length with h8 | h8
  · have := key 8 h8
    omega
  · exact h8
/-- the list within the sort: the i-th stands at j -/
def midA (l : List Al) (i j : Nat) : List Al := (ordA l i).take j ++ l.getD i alD :: ((ordA l i).drop j ++ l.drop (i + 1))
def outA (l : List Al) (i : Nat) : List Al := ordA l i ++ l.drop i
theorem outA_mid {l : List Al} {i : Nat} (h : i < l.length) : outA l i = midA l i i := by
  unfold outA midA
  rw [show (ordA l i).take i = ordA l i from List.take_of_length_le (by rw [ordA_length]; omega), show (ordA l i).drop i = [] from List.drop_of_length_le (by rw [ordA_length]; omega), List.nil_append, List.drop_eq_getElem_cons h, List.getD_eq_getElem?_getD, List.getElem?_eq_getElem h]
  rfl
theorem midA_out (l : List Al) (i : Nat) : midA l i (posA (ordA l i) (l.getD i alD) i) = outA l (i + 1) := by
  unfold outA midA
  rw [ordA, insA, ordA_length, List.append_assoc, List.cons_append]
theorem al_at (A T : List Al) (y : Al) : List.take 4 (List.drop (A.length * 4) ((A ++ y :: T).flatMap alE)) = alE y := by
  have := flatMap_cells alE 4 (fun _ => rfl) alD (A ++ y :: T) A.length (by simp)
  rw [this]
  simp
theorem al_put (A T : List Al) (y z : Al) : (A ++ z :: T).flatMap alE = ((A ++ y :: T).flatMap alE).take (A.length * 4) ++ (alE z ++ ((A ++ y :: T).flatMap alE).drop (A.length * 4 + 4)) := by
  have := set_flat_eq (f := alE) (s := 4) (l := A ++ y :: T) (i := A.length) (fun _ => rfl) z (by simp)
  rw [← this]
  simp
def unF (x : Al) : List Value := alE x
theorem unCmp_A (x y : Al) (H : Heap) : AFunC Try.prog 70 [.agg #[.int .i64 x.1, .int .i64 x.2.1, .int .i64 x.2.2.1, .bool x.2.2.2], .agg #[.int .i64 y.1, .int .i64 y.2.1, .int .i64 y.2.2.1, .bool y.2.2.2]] H (.int .i64 (cmpI x.2.2.1 y.2.2.1)) H := by
  refine AFunC.of_body Try.func70 (by kernel_rfl) rfl (by kernel_rfl) (by simp [Try.ntmps70]) ?_
  simp -dsimp -implicitDefEqProofs (disch := omega) [go_sem, -List.getD_eq_getElem?_getD, ite_yes]
  refine ACall.of (compare_A _ _ _) ?_
  simp -dsimp -implicitDefEqProofs (disch := omega) [go_sem, -List.getD_eq_getElem?_getD, ite_yes]
  first | exact fin_flat0 rfl rfl | exact fin_flat rfl rfl
end Go.Proofs.Ytokafhinmakdnaa
/- Taking a reading twice, the alarms of other nodes, and what is not seen: plain. -/
namespace Go.Proofs.Ytokafhinmakdnaa
open Go.Am
set_option linter.unusedVariables false
set_option linter.unusedSimpArgs false
theorem kindN_twice (rule : Ar) (k v : Int) : kindN rule (kindN rule k v) v = kindN rule k v := by
  by_cases h1 : v < rule.2.1
  · unfold kindN; rw [if_pos h1, if_pos h1]
  · by_cases h2 : rule.2.2.1 < v
    · unfold kindN; rw [if_neg h1, if_neg h1, if_pos h2, if_pos h2]
    · by_cases h3 : rule.2.1 + rule.2.2.2 ≤ v ∧ v ≤ rule.2.2.1 - rule.2.2.2
      · unfold kindN; rw [if_neg h1, if_neg h1, if_neg h2, if_neg h2, if_pos h3, if_pos h3]
      · unfold kindN; rw [if_neg h1, if_neg h1, if_neg h2, if_neg h2, if_neg h3, if_neg h3]
theorem lowN_zero (node : Int) {B : List Al} (h : ∀ a ∈ B, ¬ a.1 < node) : lowN node B = 0 := by
  cases B with
  | nil => rfl
  | cons a r => rw [lowN, if_neg (h a (by simp))]
theorem lowN_app (node : Int) : ∀ {A B : List Al}, (∀ a ∈ A, a.1 < node) → lowN node (A ++ B) = A.length + lowN node B
  | [], B, _ => by simp
  | a :: r, B, h => by
    rw [List.cons_append, lowN, if_pos (h a (by simp)), lowN_app node fun x hx => h x (by simp [hx]), List.length_cons]
    omega
theorem mid_of (rule : Ar) (l : List Al) (r : Rg) : ∃ mid : List Al, take1 rule l r = l.take (lowN r.2.1 l) ++ (mid ++ l.drop (nextN l r.2.1)) ∧ ∀ a ∈ mid, a.1 = r.2.1 := by
  refine ⟨if kindN rule (oldN l r.2.1) r.2.2 = 0 then [] else [newA rule l r], by rw [take1, List.append_assoc], fun a ha => ?_⟩
  split at ha
  · cases ha
  · rw [List.mem_singleton] at ha
    rw [ha, newA_node]
theorem take1_low {rule : Ar} {l : List Al} {r : Rg} (h : Ord l) : lowN r.2.1 (take1 rule l r) = lowN r.2.1 l := by
  obtain ⟨mid, e, hm⟩ := mid_of rule l r
  have ple := lowN_le r.2.1 l
  have z : lowN r.2.1 (mid ++ l.drop (nextN l r.2.1)) = 0 := lowN_zero _ fun a ha => by
    rcases List.mem_append.1 ha with ha | ha
    · rw [hm a ha]; omega
    · have := mem_drop_gt h ha; omega
  rw [e, lowN_app r.2.1 fun a ha => mem_take_lt ha, z, List.length_take]
  omega
theorem take1_old {rule : Ar} {l : List Al} {r : Rg} (h : Ord l) (hr : isRg r = true) : oldN (take1 rule l r) r.2.1 = kindN rule (oldN l r.2.1) r.2.2 := by
  have lo := take1_low (rule := rule) (r := r) h
  have ho := oldN_rng h r.2.1
  have ple := lowN_le r.2.1 l
  have tl : (l.take (lowN r.2.1 l)).length = lowN r.2.1 l := by rw [List.length_take]; omega
  unfold oldN hasN
  rw [lo]
  by_cases hk : kindN rule (oldN l r.2.1) r.2.2 = 0
  · have e : take1 rule l r = l.take (lowN r.2.1 l) ++ l.drop (nextN l r.2.1) := take1_off hk
    have hno : ¬ (lowN r.2.1 l < (take1 rule l r).length ∧ ((take1 rule l r).getD (lowN r.2.1 l) aD).1 = r.2.1) := by
      rintro ⟨h1, h2⟩
      rw [getD_el h1] at h2
      have hm : (take1 rule l r)[lowN r.2.1 l] ∈ l.drop (nextN l r.2.1) := by
        have := List.getElem_mem h1
        simp only [e]
        rw [List.getElem_append_right (by omega)]
        exact List.getElem_mem _
      have := mem_drop_gt h hm
      omega
    rw [decide_eq_false hno]
    simp only [Bool.false_eq_true, if_false]
    exact hk.symm
  · have e : take1 rule l r = l.take (lowN r.2.1 l) ++ (newA rule l r :: l.drop (nextN l r.2.1)) := by
      rw [take1, if_neg hk, List.append_assoc]; rfl
    have g : (take1 rule l r).getD (lowN r.2.1 l) aD = newA rule l r := by
      rw [e, List.getD_eq_getElem?_getD, List.getElem?_append_right (by omega), tl, Nat.sub_self]; rfl
    have hlen : lowN r.2.1 l < (take1 rule l r).length := by rw [e, List.length_append, List.length_cons, tl]; omega
    have hyes : lowN r.2.1 l < (take1 rule l r).length ∧ ((take1 rule l r).getD (lowN r.2.1 l) aD).1 = r.2.1 := ⟨hlen, by rw [g]; exact newA_node⟩
    rw [decide_eq_true hyes, g]
    simp only [if_true]
    show (newA rule l r).2.1 = kindN rule (oldN l r.2.1) r.2.2
    unfold newA
    by_cases hs : kindN rule (oldN l r.2.1) r.2.2 = oldN l r.2.1
    · rw [if_pos hs]
      by_cases hh : hasN l r.2.1 = true
      · rw [if_pos hh, hs]
        unfold oldN
        rw [if_pos hh]
      · exfalso
        apply hk
        rw [hs]
        unfold oldN
        rw [if_neg hh]
    · rw [if_neg hs]
theorem takeL_twice {rs : List Ar} {l : List Al} {r : Rg} (h : Ord l) (hr : isRg r = true) : takeL rs (takeL rs l r) r = takeL rs l r := by
  unfold takeL
  split
  · rfl
  · refine take1_same (take1_ord h hr) ?_
    rw [take1_old h hr]
    exact kindN_twice _ _ _
/-- how many of the first k are of other nodes -/
def cntTo (l : List Al) (node : Int) (k : Nat) : Nat := ((l.take k).filter fun a => decide (a.1 ≠ node)).length
theorem cntTo_next {l : List Al} {node : Int} {k : Nat} (h : k < l.length) : cntTo l node (k + 1) = if (l.getD k aD).1 = node then cntTo l node k else cntTo l node k + 1 := by
  unfold cntTo
  rw [List.take_succ_eq_append_getElem h, List.filter_append, List.length_append, getD_el h]
  by_cases e : l[k].1 = node
  · simp [e]
  · simp [e]
theorem cntTo_le (l : List Al) (node : Int) (k : Nat) : cntTo l node k ≤ k := by
  unfold cntTo
  have := List.length_filter_le (fun a : Al => decide (a.1 ≠ node)) (l.take k)
  rw [List.length_take] at this
  omega
theorem cnt_parts {l mid : List Al} {node : Int} (h : Ord l) (hm : ∀ a ∈ mid, a.1 = node) : (l.take (lowN node l) ++ (mid ++ l.drop (nextN l node))).filter (fun a => decide (a.1 ≠ node)) = l.take (lowN node l) ++ l.drop (nextN l node) := by
  rw [List.filter_append, List.filter_append, List.filter_eq_self.2 fun a ha => by
      have := mem_take_lt ha
      exact decide_eq_true (by omega), List.filter_eq_nil_iff.2 fun a ha => by simp [hm a ha], List.nil_append, List.filter_eq_self.2 fun a ha => by
      have := mem_drop_gt h ha
      exact decide_eq_true (by omega)]
theorem own_parts (l : List Al) (node : Int) : ∃ mid : List Al, l = l.take (lowN node l) ++ (mid ++ l.drop (nextN l node)) ∧ ∀ a ∈ mid, a.1 = node := by
  by_cases hh : hasN l node = true
  · refine ⟨[l.getD (lowN node l) aD], ?_, fun a ha => ?_⟩
    · unfold nextN
      rw [if_pos hh, List.singleton_append]
      exact (take_has hh).symm
    · rw [List.mem_singleton] at ha
      rw [ha]
      exact (of_decide_eq_true hh).2
  · refine ⟨[], ?_, by simp⟩
    unfold nextN
    rw [if_neg hh, Nat.add_zero, List.nil_append, List.take_append_drop]
theorem cnt_take {rs : List Ar} {l : List Al} {r : Rg} (h : Ord l) : cntTo (takeL rs l r) r.2.1 (takeL rs l r).length = cntTo l r.2.1 l.length := by
  unfold takeL
  split
  · rfl
  · obtain ⟨m1, e1, h1⟩ := mid_of (rs.getD (ruleI rs r.2.1).toNat rD) l r
    obtain ⟨m2, e2, h2⟩ := own_parts l r.2.1
    unfold cntTo
    rw [List.take_length, List.take_length, e1, cnt_parts h h1]
    conv => rhs; rw [e2]
    rw [cnt_parts h h2]
theorem ordA_mem {l : List Al} {a : Al} : ∀ i, i ≤ l.length → a ∈ ordA l i → a ∈ l
  | 0, _, h => by cases h
  | i + 1, hi, h => by
    rw [ordA, insA] at h
    rcases List.mem_append.1 h with h | h
    · exact ordA_mem i (by omega) (List.mem_of_mem_take h)
    · rcases List.mem_cons.1 h with h | h
      · rw [h, getD_el (by omega)]; exact List.getElem_mem _
      · exact ordA_mem i (by omega) (List.mem_of_mem_drop h)
/-- a node whose alarm is seen is none of those that are not -/
theorem unseen_no {l : List Al} {node : Int} {i : Nat} (h : Ord l) (hi : i < l.length) (hn : (l.getD i aD).1 = node) : ∀ k, k < (unN (seeL l i)).length → (unN (seeL l i)).getD k 0 ≠ node := by
  intro k hk e
  have hm : (unN (seeL l i)).getD k 0 ∈ unN (seeL l i) := by
    rw [List.getD_eq_getElem?_getD, List.getElem?_eq_getElem hk]; exact List.getElem_mem _
  rw [e] at hm
  unfold unN at hm
  obtain ⟨a, ha, ea⟩ := List.mem_map.1 hm
  have ha2 := ordA_mem _ (Nat.le_refl _) ha
  unfold unTo at ha2
  rw [List.take_length] at ha2
  obtain ⟨ha3, ha4⟩ := List.mem_filter.1 ha2
  obtain ⟨j, hj, ej⟩ := List.getElem_of_mem ha3
  have hj2 : j < l.length := by rw [seeL_length] at hj; exact hj
  have ej2 : (seeL l i)[j]? = some a := by rw [List.getElem?_eq_getElem hj, ej]
  unfold seeL at ej2
  by_cases hij : i = j
  · subst hij
    rw [List.getElem?_set_self hj2] at ej2
    cases ej2
    simp at ha4
  · rw [List.getElem?_set_ne hij, List.getElem?_eq_getElem hj2] at ej2
    cases ej2
    rw [getD_el hi] at hn
    have hp := List.pairwise_iff_getElem.1 h.2
    rcases Nat.lt_or_ge i j with hlt | hge
    · have := hp i j hi hj2 hlt
      omega
    · have := hp j i hj2 hi (by omega)
      omega
end Go.Proofs.Ytokafhinmakdnaa
/- UnseenNodes: the sort by insertion. -/
namespace Go.Proofs.Ytokafhinmakdnaa
open Go.Am
set_option linter.unusedVariables false
set_option linter.unusedSimpArgs false
set_option maxRecDepth 100000
set_option maxHeartbeats 4000000

theorem insUn_A (l : List Al) (hl8 : l.length ≤ 8) (c e : Nat) (H : Heap) (t : Nat) (hb : H.get t = some ⟨l.flatMap alE, true, e, 4⟩) :
    AFunC Try.prog 89 [.slice (some ⟨t, 0, none⟩) l.length c, .int .i64 0, .int .i64 l.length, .func (.func 70) #[] #[]] H (.tuple #[]) (H.set t (some ⟨(sortA l).flatMap alE, true, e, 4⟩)) := by
  refine AFunC.of_body Try.func89 (by kernel_rfl) rfl (by kernel_rfl) (by simp [Try.ntmps89]) ?_
  have ht := Heap.get_lt hb
  have gs := fun x => Heap.get_set_self (H := H) ht (x := x)
  have e0 : l.length ≠ 0 → outA l 1 = l := fun h => by
    unfold outA
    rw [ordA, insA]
    cases l with
    | nil => exact absurd rfl h
    | cons x l => simp [ordA, posA]
  simp -dsimp -implicitDefEqProofs (disch := omega) [go_sem, -List.getD_eq_getElem?_getD, ite_yes, ht]
  refine ALoop.intro (ι := Nat) (fun i => 1 ≤ i ∧ i ≤ max l.length 1) (fun i => [(0, .slice (some ⟨t, 0, none⟩) l.length c), (1, .int .i64 0), (2, .int .i64 l.length), (3, .func (.func 70) #[] #[]), (8, .int .i64 i)])
    (fun i => H.set t (some ⟨(if l.length = 0 then [] else outA l i).flatMap alE, true, e, 4⟩)) (fun i => l.length - i) 1 (by omega) ?_ ?_
  · refine weakS_set ht (alE_flat _) rfl ?_ (by simp -dsimp -implicitDefEqProofs (disch := omega) [go_sem, -List.getD_eq_getElem?_getD, ite_yes, ht])
    have : (if l.length = 0 then [] else outA l 1) = l := by
      by_cases h : l.length = 0
      · rw [if_pos h]; exact (List.eq_nil_of_length_eq_zero h).symm
      · rw [if_neg h]; exact e0 h
    rw [this]; exact (Heap.set_self hb).symm
  rintro i ⟨hi1, hi2⟩
  by_cases hlt : i < l.length
  rotate_left
  · have hlti : ¬ (i : Int) < (l.length : Int) := by omega
    have he : (if l.length = 0 then [] else outA l i) = sortA l := by
      by_cases h : l.length = 0
      · rw [if_pos h]; unfold sortA; rw [h]; rfl
      · rw [if_neg h]
        have : i = l.length := by omega
        subst this
        unfold outA sortA; rw [List.drop_length, List.append_nil]
    rw [he]
    simp -dsimp -implicitDefEqProofs (disch := omega) [go_sem, -List.getD_eq_getElem?_getD, ite_yes, hlti, hlt]
    exact fin_set ht (alE_flat (sortA l)) rfl rfl rfl rfl
  have hlti : (i : Int) < (l.length : Int) := by omega
  have hn0 : l.length ≠ 0 := by omega
  have hol := ordA_length l i
  simp only [hn0, if_false]
  simp -dsimp -implicitDefEqProofs (disch := omega) [go_sem, -List.getD_eq_getElem?_getD, ite_yes, hlti, hlt, ht]
  refine ALoop.intro (ι := Nat) (fun j => j ≤ i ∧ posA (ordA l i) (l.getD i alD) i = posA (ordA l i) (l.getD i alD) j) (fun j => [(0, .slice (some ⟨t, 0, none⟩) l.length c), (1, .int .i64 0), (2, .int .i64 l.length), (3, .func (.func 70) #[] #[]), (8, .int .i64 i), (9, .int .i64 j)])
    (fun j => H.set t (some ⟨(midA l i j).flatMap alE, true, e, 4⟩)) (fun j => j) i ⟨Nat.le_refl _, rfl⟩ ?_ ?_
  · exact weakS_set ht (alE_flat _) rfl (by rw [outA_mid hlt]) (by simp -dsimp -implicitDefEqProofs (disch := omega) [go_sem, -List.getD_eq_getElem?_getD, ite_yes, ht])
  rintro j ⟨hj, hpos⟩
  have hend : posA (ordA l i) (l.getD i alD) j = j → midA l i j = outA l (i + 1) := fun h => by rw [← midA_out, hpos, h]
  have hset : ∀ m : List Al, m = outA l (i + 1) → H.set t (some ⟨m.flatMap alE, true, e, 4⟩) = H.set t (some ⟨(outA l (i + 1)).flatMap alE, true, e, 4⟩) := fun m h => by rw [h]
  cases j with
  | zero =>
    have hm := hend rfl
    obtain ⟨M, hM⟩ : ∃ M, midA l i 0 = M := ⟨_, rfl⟩
    rw [hM] at hm ⊢
    simp -dsimp -implicitDefEqProofs (disch := omega) [go_sem, -List.getD_eq_getElem?_getD, ite_yes, ht]
    refine ADraw.quiet (by kernel_rfl) (by kernel_rfl) (by kernel_rfl) ?_
    simp -dsimp -implicitDefEqProofs (disch := omega) [go_sem, -List.getD_eq_getElem?_getD, ite_yes, ht]
    exact LoopEnd.of (i + 1) (by omega) (by omega) (weakS_set ht (alE_flat _) rfl (hset M hm) (by simp -dsimp -implicitDefEqProofs (disch := omega) [go_sem, -List.getD_eq_getElem?_getD, ite_yes, ht]))
  | succ j =>
  have hjl : j < (ordA l i).length := by omega
  have htl : ((ordA l i).take j).length = j := by rw [List.length_take]; omega
  obtain ⟨y, hy⟩ : ∃ y, (ordA l i)[j] = y := ⟨_, rfl⟩
  have hyd : (ordA l i).getD j alD = y := by rw [List.getD_eq_getElem?_getD, List.getElem?_eq_getElem hjl]; exact hy
  have hp : posA (ordA l i) (l.getD i alD) (j + 1) = if (l.getD i alD).2.2.1 < y.2.2.1 then posA (ordA l i) (l.getD i alD) j else j + 1 := by rw [posA, hyd]
  have eM : midA l i (j + 1) = (ordA l i).take j ++ y :: l.getD i alD :: ((ordA l i).drop (j + 1) ++ l.drop (i + 1)) := by
    unfold midA
    rw [List.take_succ_eq_append_getElem hjl, hy, List.append_assoc]; rfl
  have eM2 : midA l i j = (ordA l i).take j ++ l.getD i alD :: y :: ((ordA l i).drop (j + 1) ++ l.drop (i + 1)) := by
    unfold midA
    rw [List.drop_eq_getElem_cons hjl, hy, List.cons_append]
  have hlen : (midA l i (j + 1)).length = l.length := by
    rw [eM]; simp only [List.length_append, List.length_cons, List.length_drop, htl]; omega
  generalize l.getD i alD = x at hpos hp eM eM2 hend
  have hfl : ((midA l i (j + 1)).flatMap alE).length = l.length * 4 := by rw [alE_length, hlen]
  have ca : aCells (H.set t (some ⟨(midA l i (j + 1)).flatMap alE, true, e, 4⟩)) ⟨t, (j + 1) * 4, none⟩ 4 = some (alE x) := by
    have h9 := al_at ((ordA l i).take j ++ [y]) ((ordA l i).drop (j + 1) ++ l.drop (i + 1)) x
    rw [List.append_assoc, List.length_append, htl] at h9
    rw [aCells_eq, gs, aC1]
    simp only [hfl]
    rw [if_pos (by omega), eM]
    exact congrArg some h9
  have cb : aCells (H.set t (some ⟨(midA l i (j + 1)).flatMap alE, true, e, 4⟩)) ⟨t, j * 4, none⟩ 4 = some (alE y) := by
    have h9 := al_at ((ordA l i).take j) (x :: ((ordA l i).drop (j + 1) ++ l.drop (i + 1))) y
    rw [htl] at h9
    rw [aCells_eq, gs, aC1]
    simp only [hfl]
    rw [if_pos (by omega), eM]
    exact congrArg some h9
  obtain ⟨M1, hM1⟩ : ∃ M, (ordA l i).take j ++ y :: y :: ((ordA l i).drop (j + 1) ++ l.drop (i + 1)) = M := ⟨_, rfl⟩
  have s1 : ((midA l i (j + 1)).flatMap alE).take ((j + 1) * 4) ++ (alE y ++ ((midA l i (j + 1)).flatMap alE).drop ((j + 1) * 4 + 4)) = M1.flatMap alE := by
    have h9 := al_put ((ordA l i).take j ++ [y]) ((ordA l i).drop (j + 1) ++ l.drop (i + 1)) x y
    rw [List.append_assoc, List.length_append, htl, List.append_assoc] at h9
    rw [eM, ← hM1]
    exact h9.symm
  have s2 : (M1.flatMap alE).take (j * 4) ++ (alE x ++ (M1.flatMap alE).drop (j * 4 + 4)) = (midA l i j).flatMap alE := by
    have h9 := al_put ((ordA l i).take j) (y :: ((ordA l i).drop (j + 1) ++ l.drop (i + 1))) y x
    rw [htl] at h9
    rw [eM2, ← hM1]
    exact h9.symm
  have hfl2 : (M1.flatMap alE).length = l.length * 4 := by
    rw [← s1]
    simp only [List.length_append, List.length_take, List.length_drop, hfl, alE, List.length_cons, List.length_nil]
    omega
  have C := unCmp_A x y (roH (H.set t (some ⟨(midA l i (j + 1)).flatMap alE, true, e, 4⟩)))
  simp only [alE, List.cons_append, List.nil_append] at ca cb s1 s2
  obtain ⟨M, hM⟩ : ∃ M, midA l i (j + 1) = M := ⟨_, rfl⟩
  rw [hM] at hend hfl ca cb s1 C ⊢
  have hj0 : j < l.length := by omega
  have hj1 : j + 1 < l.length := by omega
  simp -dsimp -implicitDefEqProofs (disch := omega) [go_sem, -List.getD_eq_getElem?_getD, ite_yes, ht]
  refine ADraw.quiet (by kernel_rfl) (by kernel_rfl) (by kernel_rfl) ?_
  simp -dsimp -implicitDefEqProofs (disch := omega) [go_sem, -List.getD_eq_getElem?_getD, ite_yes, ht, hj0, hj1, ca, cb]
  refine ACallQ.of C rfl ?_
  by_cases hxy : x.2.2.1 < y.2.2.1
  · rw [if_pos hxy] at hp
    rw [hp] at hpos
    have hc : cmpI x.2.2.1 y.2.2.1 = -1 := if_pos hxy
    rw [hc]
    simp -dsimp -implicitDefEqProofs (disch := omega) [go_sem, -List.getD_eq_getElem?_getD, ite_yes, ht]
    refine ADraw.any [] (by kernel_rfl) (SubH.nil) ?_
    refine AAny.takes (fuel := 6) (by kernel_rfl) (by kernel_rfl) [0, 1, 2, 3, 4, 5, 6, 7, 8, 10, 11, 12] (by kernel_rfl) (by kernel_rfl) ?_
    simp -dsimp -implicitDefEqProofs (disch := omega) [go_sem, -List.getD_eq_getElem?_getD, ite_yes, ht, hj0, hj1, ca, cb, gs, hfl, hfl2, s1, s2, List.set_set]
    refine AAny.two 5 9 13 (by kernel_rfl) (by kernel_rfl) (by kernel_rfl) ?_ ?_
    · simp -dsimp -implicitDefEqProofs (disch := omega) [go_sem, -List.getD_eq_getElem?_getD, ite_yes, ht, hj0, hj1, ca, cb, gs, hfl, hfl2, s1, s2, List.set_set]
      first | refine AAt.of (SubH.nil) ?_ | (refine ⟨?_, AAt.of (SubH.nil) ?_⟩; · omega)
      refine AAny.one 4 13 (by kernel_rfl) (by kernel_rfl) (by kernel_rfl) ?_
      simp -dsimp -implicitDefEqProofs (disch := omega) [go_sem, -List.getD_eq_getElem?_getD, ite_yes, ht, hj0, hj1, ca, cb, gs, hfl, hfl2, s1, s2, List.set_set]
      first | refine AAt.of (SubH.nil) ?_ | (refine ⟨?_, AAt.of (SubH.nil) ?_⟩; · omega)
      refine AAny.takes (fuel := 3) (by kernel_rfl) (by kernel_rfl) [14] (by kernel_rfl) (by kernel_rfl) ?_
      simp -dsimp -implicitDefEqProofs (disch := omega) [go_sem, -List.getD_eq_getElem?_getD, ite_yes, ht, hj0, hj1, ca, cb, gs, hfl, hfl2, s1, s2, List.set_set]
      refine AAny.one 2 15 (by kernel_rfl) (by kernel_rfl) (by kernel_rfl) ?_
      simp -dsimp -implicitDefEqProofs (disch := omega) [go_sem, -List.getD_eq_getElem?_getD, ite_yes, ht, hj0, hj1, ca, cb, gs, hfl, hfl2, s1, s2, List.set_set]
      first | refine AAt.of (SubH.nil) ?_ | (refine ⟨?_, AAt.of (SubH.nil) ?_⟩; · omega)
      refine AAny.takes (fuel := 1) (by kernel_rfl) (by kernel_rfl) [16] (by kernel_rfl) (by kernel_rfl) ?_
      simp -dsimp -implicitDefEqProofs (disch := omega) [go_sem, -List.getD_eq_getElem?_getD, ite_yes, ht, hj0, hj1, ca, cb, gs, hfl, hfl2, s1, s2, List.set_set]
      refine AAny.one 0 17 (by kernel_rfl) (by kernel_rfl) (by kernel_rfl) ?_
      simp -dsimp -implicitDefEqProofs (disch := omega) [go_sem, -List.getD_eq_getElem?_getD, ite_yes, ht, hj0, hj1, ca, cb, gs, hfl, hfl2, s1, s2, List.set_set]
      first | refine AAt.of (SubH.nil) ?_ | (refine ⟨?_, AAt.of (SubH.nil) ?_⟩; · omega)
      refine AAny.done (by kernel_rfl) ?_
      simp -dsimp -implicitDefEqProofs (disch := omega) [go_sem, -List.getD_eq_getElem?_getD, ite_yes, ht, hj0, hj1, ca, cb, gs, hfl, hfl2, s1, s2, List.set_set]
      exact LoopEnd.of j ⟨by omega, hpos⟩ (by omega) (weakS_set (b := ⟨(midA l i j).flatMap alE, true, e, 4⟩) ht (alE_flat _) rfl (by simp [s1, s2]) (by simp -dsimp -implicitDefEqProofs (disch := omega) [go_sem, -List.getD_eq_getElem?_getD, ite_yes, ht]))
    · simp -dsimp -implicitDefEqProofs (disch := omega) [go_sem, -List.getD_eq_getElem?_getD, ite_yes, ht, hj0, hj1, ca, cb, gs, hfl, hfl2, s1, s2, List.set_set]
      first | refine AAt.of (SubH.nil) ?_ | (refine ⟨?_, AAt.of (SubH.nil) ?_⟩; · omega)
      refine AAny.one 4 9 (by kernel_rfl) (by kernel_rfl) (by kernel_rfl) ?_
      simp -dsimp -implicitDefEqProofs (disch := omega) [go_sem, -List.getD_eq_getElem?_getD, ite_yes, ht, hj0, hj1, ca, cb, gs, hfl, hfl2, s1, s2, List.set_set]
      first | refine AAt.of (SubH.nil) ?_ | (refine ⟨?_, AAt.of (SubH.nil) ?_⟩; · omega)
      refine AAny.takes (fuel := 3) (by kernel_rfl) (by kernel_rfl) [14] (by kernel_rfl) (by kernel_rfl) ?_
      simp -dsimp -implicitDefEqProofs (disch := omega) [go_sem, -List.getD_eq_getElem?_getD, ite_yes, ht, hj0, hj1, ca, cb, gs, hfl, hfl2, s1, s2, List.set_set]
      refine AAny.one 2 15 (by kernel_rfl) (by kernel_rfl) (by kernel_rfl) ?_
      simp -dsimp -implicitDefEqProofs (disch := omega) [go_sem, -List.getD_eq_getElem?_getD, ite_yes, ht, hj0, hj1, ca, cb, gs, hfl, hfl2, s1, s2, List.set_set]
      first | refine AAt.of (SubH.nil) ?_ | (refine ⟨?_, AAt.of (SubH.nil) ?_⟩; · omega)
      refine AAny.takes (fuel := 1) (by kernel_rfl) (by kernel_rfl) [16] (by kernel_rfl) (by kernel_rfl) ?_
      simp -dsimp -implicitDefEqProofs (disch := omega) [go_sem, -List.getD_eq_getElem?_getD, ite_yes, ht, hj0, hj1, ca, cb, gs, hfl, hfl2, s1, s2, List.set_set]
      refine AAny.one 0 17 (by kernel_rfl) (by kernel_rfl) (by kernel_rfl) ?_
      simp -dsimp -implicitDefEqProofs (disch := omega) [go_sem, -List.getD_eq_getElem?_getD, ite_yes, ht, hj0, hj1, ca, cb, gs, hfl, hfl2, s1, s2, List.set_set]
      first | refine AAt.of (SubH.nil) ?_ | (refine ⟨?_, AAt.of (SubH.nil) ?_⟩; · omega)
      refine AAny.done (by kernel_rfl) ?_
      simp -dsimp -implicitDefEqProofs (disch := omega) [go_sem, -List.getD_eq_getElem?_getD, ite_yes, ht, hj0, hj1, ca, cb, gs, hfl, hfl2, s1, s2, List.set_set]
      exact LoopEnd.of j ⟨by omega, hpos⟩ (by omega) (weakS_set (b := ⟨(midA l i j).flatMap alE, true, e, 4⟩) ht (alE_flat _) rfl (by simp [s1, s2]) (by simp -dsimp -implicitDefEqProofs (disch := omega) [go_sem, -List.getD_eq_getElem?_getD, ite_yes, ht]))
  · rw [if_neg hxy] at hp
    have hc : ¬ cmpI x.2.2.1 y.2.2.1 < 0 := by unfold cmpI; rw [if_neg hxy]; split <;> omega
    simp -dsimp -implicitDefEqProofs (disch := omega) [go_sem, -List.getD_eq_getElem?_getD, ite_yes, ht, hc]
    exact LoopEnd.of (i + 1) (by omega) (by omega) (weakS_set ht (alE_flat _) rfl (hset M (hend hp)) (by simp -dsimp -implicitDefEqProofs (disch := omega) [go_sem, -List.getD_eq_getElem?_getD, ite_yes, ht]))
end Go.Proofs.Ytokafhinmakdnaa
/- UnseenNodes: both sides, and the law. -/
namespace Go.Proofs.Ytokafhinmakdnaa
open Go.Am
set_option linter.unusedVariables false
set_option linter.unusedSimpArgs false
set_option maxRecDepth 100000
set_option maxHeartbeats 4000000

theorem stableUn_A (l : List Al) (hl8 : l.length ≤ 8) (c e : Nat) (H : Heap) (t : Nat) (hb : H.get t = some ⟨l.flatMap alE, true, e, 4⟩) :
    AFunC Try.prog 83 [.slice (some ⟨t, 0, none⟩) l.length c, .int .i64 l.length, .func (.func 70) #[] #[]] H (.tuple #[]) (H.set t (some ⟨(sortA l).flatMap alE, true, e, 4⟩)) := by
  refine AFunC.of_body Try.func83 (by kernel_rfl) rfl (by kernel_rfl) (by simp [Try.ntmps83]) ?_
  have ht := Heap.get_lt hb
  have h1 : ¬ (20 : Int) ≤ (l.length : Int) := by omega
  have h2 : ¬ (20 : Int) < (l.length : Int) := by omega
  have h1n : ¬ 20 ≤ l.length := by omega
  have h2n : ¬ 20 < l.length := by omega
  simp -dsimp -implicitDefEqProofs (disch := omega) [go_sem, -List.getD_eq_getElem?_getD, ite_yes, ht]
  refine ALoop.intro (ι := Unit) (fun _ => True) (fun _ => [(0, .slice (some ⟨t, 0, none⟩) l.length c), (1, .int .i64 l.length), (2, .func (.func 70) #[] #[]), (6, .int .i64 20), (7, .int .i64 0), (8, .int .i64 20)]) (fun _ => H) (fun _ => 0) () trivial ?_ ?_
  · exact weakS_same (by simp -dsimp -implicitDefEqProofs (disch := omega) [go_sem, -List.getD_eq_getElem?_getD, ite_yes, ht])
  intro _ _
  simp -dsimp -implicitDefEqProofs (disch := omega) [go_sem, -List.getD_eq_getElem?_getD, ite_yes, h1, h1n, ht]
  refine ACall.of (insUn_A l hl8 c e H t hb) ?_
  simp -dsimp -implicitDefEqProofs (disch := omega) [go_sem, -List.getD_eq_getElem?_getD, ite_yes, ht]
  refine ALoop.intro (ι := Unit) (fun _ => True) (fun _ => [(1, .int .i64 l.length), (6, .int .i64 20)]) (fun _ => H.set t (some ⟨(sortA l).flatMap alE, true, e, 4⟩)) (fun _ => 0) () trivial ?_ ?_
  · exact weakS_set ht (alE_flat _) rfl rfl (by simp -dsimp -implicitDefEqProofs (disch := omega) [go_sem, -List.getD_eq_getElem?_getD, ite_yes, ht])
  intro _ _
  simp -dsimp -implicitDefEqProofs (disch := omega) [go_sem, -List.getD_eq_getElem?_getD, ite_yes, h2, h2n]
  exact fin_set ht (alE_flat (sortA l)) rfl rfl rfl rfl
theorem sortUn_A (l : List Al) (hl8 : l.length ≤ 8) (c e : Nat) (H : Heap) (t : Nat) (hb : H.get t = some ⟨l.flatMap alE, true, e, 4⟩) :
    AFunC Try.prog 69 [.slice (some ⟨t, 0, none⟩) l.length c, .func (.func 70) #[] #[]] H (.tuple #[]) (H.set t (some ⟨(sortA l).flatMap alE, true, e, 4⟩)) := by
  refine AFunC.of_body Try.func69 (by kernel_rfl) rfl (by kernel_rfl) (by simp [Try.ntmps69]) ?_
  have ht := Heap.get_lt hb
  simp -dsimp -implicitDefEqProofs (disch := omega) [go_sem, -List.getD_eq_getElem?_getD, ite_yes, ht]
  refine ACall.of (stableUn_A l hl8 c e H t hb) ?_
  simp -dsimp -implicitDefEqProofs (disch := omega) [go_sem, -List.getD_eq_getElem?_getD, ite_yes]
  exact fin_set ht (alE_flat (sortA l)) rfl rfl rfl rfl
theorem sortA_length (l : List Al) : (sortA l).length = l.length := ordA_length _ _
/-- the nodes of the first k -/
def ndTo (L : List Al) (k : Nat) : List Int := (L.take k).map (·.1)
theorem ndTo_next {L : List Al} {k : Nat} (h : k < L.length) : ndTo L (k + 1) = ndTo L k ++ [(L.getD k alD).1] := by
  unfold ndTo
  rw [List.take_succ_eq_append_getElem h, List.map_append, List.getD_eq_getElem?_getD, List.getElem?_eq_getElem h]; rfl
theorem ndTo_length {L : List Al} {k : Nat} (h : k ≤ L.length) : (ndTo L k).length = k := by unfold ndTo; rw [List.length_map, List.length_take]; omega
theorem unN_length (l : List Al) : (unN l).length ≤ l.length := by
  unfold unN
  rw [List.length_map, sortA_length]
  exact unTo_length _ _
theorem iUnseen_bad (l : List Al) (hl : l.length ≤ 1048577) (c : Nat) (H : Heap) (t : Nat) (hS : Sl alE H t l) (hg : goodA l = false) :
    AFunC Try.prog 34 [.slice (some ⟨t, 0, none⟩) l.length c] H (.tuple #[.slice none 0 0, .bool false]) H := by
  refine AFunC.of_body Try.func34 (by kernel_rfl) rfl (by kernel_rfl) (by simp [Try.ntmps34]) ?_
  have ht := hS.lt
  simp -dsimp -implicitDefEqProofs (disch := omega) [go_sem, -List.getD_eq_getElem?_getD, ite_yes]
  refine ACall.of (areAlarms_A l hl c _ t hS) ?_
  simp -dsimp -implicitDefEqProofs (disch := omega) [go_sem, -List.getD_eq_getElem?_getD, ite_yes, hg]
  exact fin_flat0 rfl rfl
theorem iUnseen_good (l : List Al) (hl : l.length ≤ 1048577) (c : Nat) (H : Heap) (t : Nat) (hS : Sl alE H t l) (hg : goodA l = true) :
    AFunC Try.prog 34 [.slice (some ⟨t, 0, none⟩) l.length c] H (.tuple #[.slice (some ⟨H.length, 0, none⟩) (unN l).length (unN l).length, .bool true]) (H ++ [some ⟨(unN l).flatMap nmE, true, 3, 1⟩]) := by
  refine AFunC.of_body Try.func34 (by kernel_rfl) rfl (by kernel_rfl) (by simp [Try.ntmps34]) ?_
  have ht := hS.lt
  have l8 := goodA_small hg
  have cs := fun k hk => hS.cells (s := 4) (fun _ => rfl) alD k hk
  simp only [alE] at cs
  simp -dsimp -implicitDefEqProofs (disch := omega) [go_sem, -List.getD_eq_getElem?_getD, ite_yes]
  refine ACall.of (areAlarms_A l hl c _ t hS) ?_
  simp -dsimp -implicitDefEqProofs (disch := omega) [go_sem, -List.getD_eq_getElem?_getD, ite_yes, hg]
  refine ALoop.intro (ι := Nat) (fun k => k ≤ l.length) (fun k => [(4, .slice (some ⟨H.length, 0, none⟩) (unTo l k).length (unTo l k).length), (5, .slice (some ⟨H.length + 1, 0, none⟩) 0 0), (15, .slice (some ⟨t, 0, none⟩) l.length c), (16, .int .i64 l.length), (17, .int .i64 k)])
    (fun k => H ++ [some ⟨(unTo l k).flatMap alE, true, 74, 4⟩, some ⟨[], true, 3, 1⟩]) (fun k => l.length - k) 0 (by omega) ?_ ?_
  · refine weakS_mk [some 0, some 1] rfl ?_ (by simp -dsimp -implicitDefEqProofs (disch := omega) [go_sem, -List.getD_eq_getElem?_getD, ite_yes, ht, unTo])
    simp -dsimp -implicitDefEqProofs (disch := omega) [go_sem, -List.getD_eq_getElem?_getD, ite_yes, unTo]
    exact .inl ⟨rfl, rfl⟩
  · intro k hk
    by_cases hlt : k < l.length
    · have un := unTo_next hlt
      have ul := unTo_length l k
      have uf := alE_length (unTo l k)
      have ck := cs k hlt
      generalize hx : l.getD k alD = x at un ck
      by_cases hs : x.2.2.2 = true
      · rw [if_pos hs] at un
        simp -dsimp -implicitDefEqProofs (disch := omega) [go_sem, -List.getD_eq_getElem?_getD, ite_yes, hlt, ck, ht, hs]
        refine LoopEnd.of (k + 1) (by omega) (by omega) (weakS_mk [some 0, some 1] rfl ?_ (by simp -dsimp -implicitDefEqProofs (disch := omega) [go_sem, -List.getD_eq_getElem?_getD, ite_yes, ht, un]))
        simp -dsimp -implicitDefEqProofs (disch := omega) [go_sem, -List.getD_eq_getElem?_getD, ite_yes, un]
        exact ⟨.inl ⟨rfl, alE_flat _⟩, .inl ⟨rfl, rfl⟩⟩
      · rw [if_neg hs] at un
        have hs' : x.2.2.2 = false := by simpa using hs
        simp -dsimp -implicitDefEqProofs (disch := omega) [go_sem, -List.getD_eq_getElem?_getD, ite_yes, hlt, ck, ht, hs', uf]
        have unl : (unTo l (k + 1)).length = (unTo l k).length + 1 := by rw [un]; simp
        refine ⟨by omega, LoopEnd.of (k + 1) (by omega) (by omega) (weakS_mk [some 4, some 1] rfl ?_ (by simp -dsimp -implicitDefEqProofs (disch := omega) [go_sem, -List.getD_eq_getElem?_getD, ite_yes, ht, unl]))⟩
        simp -dsimp -implicitDefEqProofs (disch := omega) [go_sem, -List.getD_eq_getElem?_getD, ite_yes, un]
        exact ⟨.inl ⟨by simp [alE, hs'], by simp [alE, flat]⟩, .inl ⟨rfl, rfl⟩⟩
    · simp -dsimp -implicitDefEqProofs (disch := omega) [go_sem, -List.getD_eq_getElem?_getD, ite_yes, hlt]
      obtain rfl : k = l.length := by omega
      generalize hu : unTo l l.length = u
      have ul := unTo_length l l.length
      rw [hu] at ul
      refine ACall.of (sortUn_A u (by omega) _ _ _ _ (by rw [Heap.get_len]; rfl)) ?_
      have sl := sortA_length u
      have hn : unN l = ndTo (sortA u) (sortA u).length := by unfold unN ndTo; rw [hu, List.take_of_length_le (Nat.le_refl _)]
      rw [hn]
      generalize sortA u = S at sl
      simp -dsimp -implicitDefEqProofs (disch := omega) [go_sem, -List.getD_eq_getElem?_getD, ite_yes, ht]
      refine ALoop.intro (ι := Nat) (fun k => k ≤ S.length) (fun k => [(5, .slice (some ⟨H.length + 1, 0, none⟩) k k), (31, .slice (some ⟨H.length, 0, none⟩) S.length S.length), (32, .int .i64 S.length), (33, .int .i64 k)])
        (fun k => H ++ [some ⟨S.flatMap alE, true, 74, 4⟩, some ⟨(ndTo S k).flatMap nmE, true, 3, 1⟩]) (fun k => S.length - k) 0 (by omega) ?_ ?_
      · refine weakS_mk [some 0, some 1] rfl ?_ (by simp -dsimp -implicitDefEqProofs (disch := omega) [go_sem, -List.getD_eq_getElem?_getD, ite_yes, ht, sl])
        simp -dsimp -implicitDefEqProofs (disch := omega) [go_sem, -List.getD_eq_getElem?_getD, ite_yes, ndTo]
        exact ⟨.inl ⟨rfl, alE_flat _⟩, .inl ⟨rfl, rfl⟩⟩
      · intro k hk
        have nl := ndTo_length hk
        have nf : ((ndTo S k).flatMap nmE).length = k := by rw [nmE_length, nl]; omega
        have sf := alE_length S
        by_cases hlt : k < S.length
        · have nx := ndTo_next hlt
          have ck := flatMap_cells alE 4 (fun _ => rfl) alD S k hlt
          have k4 : k * 4 + 4 ≤ S.length * 4 := by omega
          generalize S.getD k alD = x at nx ck
          simp only [alE] at ck
          simp -dsimp -implicitDefEqProofs (disch := omega) [go_sem, -List.getD_eq_getElem?_getD, ite_yes, hlt, ck, ht, nf, sf, k4]
          refine ⟨by omega, LoopEnd.of (k + 1) (by omega) (by omega) (weakS_mk [some 0, some 4] rfl ?_ (by simp -dsimp -implicitDefEqProofs (disch := omega) [go_sem, -List.getD_eq_getElem?_getD, ite_yes, ht]))⟩
          simp -dsimp -implicitDefEqProofs (disch := omega) [go_sem, -List.getD_eq_getElem?_getD, ite_yes, nx]
          exact ⟨.inl ⟨rfl, alE_flat _⟩, .inl ⟨by simp [nmE], by simp [nmE, flat]⟩⟩
        · simp -dsimp -implicitDefEqProofs (disch := omega) [go_sem, -List.getD_eq_getElem?_getD, ite_yes, hlt]
          obtain rfl : k = S.length := by omega
          rw [show ((ndTo S S.length).length = S.length) from nl]
          refine fin_list [some 1] rfl ?_ (by simp -dsimp -implicitDefEqProofs (disch := omega) [go_sem, -List.getD_eq_getElem?_getD, ite_yes, ht])
          simp -dsimp -implicitDefEqProofs (disch := omega) [go_sem, -List.getD_eq_getElem?_getD, ite_yes]
          exact .inl ⟨rfl, nmE_flat _⟩
theorem un_take (L : List Int) (k : Nat) : List.take k (L.flatMap nmE) = (L.take k).flatMap nmE := by
  have e : ∀ M : List Int, M.flatMap nmE = M.map (Value.int .i64) := fun M => by
    induction M with
    | nil => rfl
    | cons x M ih => rw [List.flatMap_cons, ih]; rfl
  rw [e, e, List.map_take]
theorem un_drop (L : List Int) (k : Nat) : List.drop k (L.flatMap nmE) = (L.drop k).flatMap nmE := by
  have e : ∀ M : List Int, M.flatMap nmE = M.map (Value.int .i64) := fun M => by
    induction M with
    | nil => rfl
    | cons x M ih => rw [List.flatMap_cons, ih]; rfl
  rw [e, e, List.map_drop]
/-- a number put among some -/
theorem un_ins (f : Al → Int) (O : List Al) (x : Al) {k : Nat} (h : posA O x O.length = k) : ((insA O x).map f).flatMap nmE = ((O.map f).take k).flatMap nmE ++ Value.int .i64 (f x) :: ((O.map f).drop k).flatMap nmE := by
  rw [insA, h, List.map_append, List.map_cons, List.flatMap_append, List.flatMap_cons, List.map_take, List.map_drop]; rfl
theorem sUnseen_bad (l : List Al) (hl : l.length ≤ 1048577) (c : Nat) (H : Heap) (t : Nat) (hS : Sl alE H t l) (hg : goodA l = false) :
    AFunC Try.prog 35 [.slice (some ⟨t, 0, none⟩) l.length c] H (.tuple #[.slice (some ⟨H.length, 0, none⟩) 0 0, .bool false]) (H ++ [some ⟨[], true, 3, 1⟩]) := by
  refine AFunC.of_body Try.func35 (by kernel_rfl) rfl (by kernel_rfl) (by simp [Try.ntmps35]) ?_
  have ht := hS.lt
  simp -dsimp -implicitDefEqProofs (disch := omega) [go_sem, -List.getD_eq_getElem?_getD, ite_yes]
  refine ACall.of (l21Alarms_A l hl c _ t hS.app) ?_
  simp -dsimp -implicitDefEqProofs (disch := omega) [go_sem, -List.getD_eq_getElem?_getD, ite_yes, hg]
  refine fin_list [some 0] rfl ?_ (by simp -dsimp -implicitDefEqProofs (disch := omega) [go_sem, -List.getD_eq_getElem?_getD, ite_yes, ht])
  simp -dsimp -implicitDefEqProofs (disch := omega) [go_sem, -List.getD_eq_getElem?_getD, ite_yes]
  exact .inl ⟨rfl, rfl⟩
theorem sUnseen_good (l : List Al) (hl : l.length ≤ 1048577) (c : Nat) (H : Heap) (t : Nat) (hS : Sl alE H t l) (hg : goodA l = true) :
    AFunC Try.prog 35 [.slice (some ⟨t, 0, none⟩) l.length c] H (.tuple #[.slice (some ⟨H.length, 0, none⟩) (unN l).length 0, .bool true]) (H ++ [some ⟨(unN l).flatMap nmE, true, 3, 1⟩]) := by
  refine AFunC.of_body Try.func35 (by kernel_rfl) rfl (by kernel_rfl) (by simp [Try.ntmps35]) ?_
  have ht := hS.lt
  have l8 := goodA_small hg
  have cs := fun k hk => hS.cells (s := 4) (fun _ => rfl) alD k hk
  have c3 := fun k hk => hS.cell (s := 4) (fun _ => rfl) alD k 3 hk (by omega)
  have c2 := fun k hk => hS.cell (s := 4) (fun _ => rfl) alD k 2 hk (by omega)
  have c1 := fun k hk => hS.cell (s := 4) (fun _ => rfl) alD k 0 hk (by omega)
  simp only [alE, Nat.add_zero] at c1 c2 c3
  simp -dsimp -implicitDefEqProofs (disch := omega) [go_sem, -List.getD_eq_getElem?_getD, ite_yes]
  refine ACall.of (l21Alarms_A l hl c _ t hS.app) ?_
  simp -dsimp -implicitDefEqProofs (disch := omega) [go_sem, -List.getD_eq_getElem?_getD, ite_yes, hg]
  refine ALoop.intro (ι := Nat) (fun i => i ≤ l.length) (fun i => [(0, .slice (some ⟨t, 0, none⟩) l.length c), (4, .slice (some ⟨H.length, 0, none⟩) (unTo l i).length 0), (5, .slice (some ⟨H.length + 1, 0, none⟩) (unTo l i).length 0), (6, .int .i64 i)])
    (fun i => H ++ [some ⟨((sortA (unTo l i)).map (·.1)).flatMap nmE, true, 3, 1⟩, some ⟨((sortA (unTo l i)).map (·.2.2.1)).flatMap nmE, true, 3, 1⟩]) (fun i => l.length - i) 0 (by omega) ?_ ?_
  · refine weakS_mk [some 0, some 1] rfl ?_ (by simp -dsimp -implicitDefEqProofs (disch := omega) [go_sem, -List.getD_eq_getElem?_getD, ite_yes, ht, unTo])
    simp -dsimp -implicitDefEqProofs (disch := omega) [go_sem, -List.getD_eq_getElem?_getD, ite_yes, unTo, sortA, ordA]
    exact .inl ⟨rfl, rfl⟩
  · intro i hi
    have ul := unTo_length l i
    have ol := sortA_length (unTo l i)
    by_cases hlt : i < l.length
    · have un := unTo_next hlt
      have k3 := c3 i hlt
      have k2 := c2 i hlt
      have k1 := c1 i hlt
      generalize l.getD i alD = x at un k1 k2 k3
      by_cases hs : x.2.2.2 = true
      · rw [if_pos hs] at un
        simp -dsimp -implicitDefEqProofs (disch := omega) [go_sem, -List.getD_eq_getElem?_getD, ite_yes, hlt, k3, ht, hs]
        refine LoopEnd.of (i + 1) (by omega) (by omega) (weakS_mk [some 0, some 1] rfl ?_ (by simp -dsimp -implicitDefEqProofs (disch := omega) [go_sem, -List.getD_eq_getElem?_getD, ite_yes, ht, un]))
        simp -dsimp -implicitDefEqProofs (disch := omega) [go_sem, -List.getD_eq_getElem?_getD, ite_yes, un]
        exact ⟨.inl ⟨rfl, nmE_flat _⟩, .inl ⟨rfl, nmE_flat _⟩⟩
      · rw [if_neg hs] at un
        have hs' : x.2.2.2 = false := by simpa using hs
        have us := sortA_snoc (unTo l i) x
        have unl : (unTo l (i + 1)).length = (unTo l i).length + 1 := by rw [un]; simp
        rw [← un] at us
        generalize hO : sortA (unTo l i) = O at us ol ⊢
        generalize hn : (unTo l i).length = n at ul ol unl ⊢
        simp -dsimp -implicitDefEqProofs (disch := omega) [go_sem, -List.getD_eq_getElem?_getD, ite_yes, hlt, k3, ht, hs']
        refine ALoop.intro (ι := Nat) (fun k => k ≤ n ∧ posA O x n = posA O x k) (fun k => [(0, .slice (some ⟨t, 0, none⟩) l.length c), (4, .slice (some ⟨H.length, 0, none⟩) n 0), (5, .slice (some ⟨H.length + 1, 0, none⟩) n 0), (6, .int .i64 i), (7, .int .i64 k)])
          (fun k => H ++ [some ⟨(O.map (·.1)).flatMap nmE, true, 3, 1⟩, some ⟨(O.map (·.2.2.1)).flatMap nmE, true, 3, 1⟩]) (fun k => k) n ⟨Nat.le_refl _, rfl⟩ ?_ ?_
        · refine weakS_mk [some 0, some 1] rfl ?_ (by simp -dsimp -implicitDefEqProofs (disch := omega) [go_sem, -List.getD_eq_getElem?_getD, ite_yes, ht])
          simp -dsimp -implicitDefEqProofs (disch := omega) [go_sem, -List.getD_eq_getElem?_getD, ite_yes]
          exact ⟨.inl ⟨rfl, nmE_flat _⟩, .inl ⟨rfl, nmE_flat _⟩⟩
        rintro k ⟨hk, hpos⟩
        have hins : ∀ (f : Al → Int) (k : Nat), posA O x n = k → ((insA O x).map f).flatMap nmE = ((O.map f).take k).flatMap nmE ++ Value.int .i64 (f x) :: ((O.map f).drop k).flatMap nmE := fun f k h => un_ins f O x (by rw [ol]; exact h)
        have nl : (O.map (·.1)).length = n := by rw [List.length_map, ol]
        have tl : (O.map (·.2.2.1)).length = n := by rw [List.length_map, ol]
        have nl' : ((insA O x).map (·.1)).length = n + 1 := by rw [List.length_map, insA_length, ol]
        have tk : ∀ k, k < n → (O.map (·.2.2.1)).getD k 0 = (O.getD k alD).2.2.1 := fun k h => by
          rw [List.getD_eq_getElem?_getD, List.getElem?_map, List.getD_eq_getElem?_getD, List.getElem?_eq_getElem (by omega)]; rfl
        obtain ⟨N, hNe⟩ : ∃ N, O.map (·.1) = N := ⟨_, rfl⟩
        obtain ⟨T, hTe⟩ : ∃ T, O.map (·.2.2.1) = T := ⟨_, rfl⟩
        obtain ⟨N', hN'e⟩ : ∃ N', (insA O x).map (·.1) = N' := ⟨_, rfl⟩
        obtain ⟨T', hT'e⟩ : ∃ T', (insA O x).map (·.2.2.1) = T' := ⟨_, rfl⟩
        have nf : (N.flatMap nmE).length = n := by rw [nmE_length, ← hNe, nl]; omega
        have tf : (T.flatMap nmE).length = n := by rw [nmE_length, ← hTe, tl]; omega
        rw [hNe] at nl
        rw [hTe] at tl tk
        rw [hN'e] at nl'
        have hi1 := hins (·.1)
        have hi2 := hins (·.2.2.1)
        rw [hNe, hN'e] at hi1
        rw [hTe, hT'e] at hi2
        rw [hNe, hTe]
        cases k with
        | zero =>
          simp -dsimp -implicitDefEqProofs (disch := omega) [go_sem, -List.getD_eq_getElem?_getD, ite_yes, ht]
          refine ADraw.quiet (by kernel_rfl) (by kernel_rfl) (by kernel_rfl) ?_
          have n1 := un_take N (0)
          have n2 := un_drop N (0)
          have n3 : (List.flatMap nmE (List.take (0) N)).length = 0 := by rw [nmE_length, List.length_take]; omega
          have n4 : (List.flatMap nmE (List.drop (0) N)).length = n - (0) := by rw [nmE_length, List.length_drop]; omega
          have n5 : List.take (n - (0)) (List.flatMap nmE (List.drop (0) N)) = List.flatMap nmE (List.drop (0) N) := List.take_of_length_le (by omega)
          have m1 := un_take T (0)
          have m2 := un_drop T (0)
          have m3 : (List.flatMap nmE (List.take (0) T)).length = 0 := by rw [nmE_length, List.length_take]; omega
          have m4 : (List.flatMap nmE (List.drop (0) T)).length = n - (0) := by rw [nmE_length, List.length_drop]; omega
          have m5 : List.take (n - (0)) (List.flatMap nmE (List.drop (0) T)) = List.flatMap nmE (List.drop (0) T) := List.take_of_length_le (by omega)
          have e4 : (0) + 1 + (n - (0)) = n + 1 := by omega
          have hN : N'.flatMap nmE = (N.take (0)).flatMap nmE ++ Value.int .i64 x.1 :: (N.drop (0)).flatMap nmE := hi1 0 hpos
          have hT : T'.flatMap nmE = (T.take (0)).flatMap nmE ++ Value.int .i64 x.2.2.1 :: (T.drop (0)).flatMap nmE := hi2 0 hpos
          try simp only [List.drop_zero, List.take_zero, List.flatMap_nil, Nat.sub_zero, List.nil_append, Nat.zero_add] at n1 n2 n3 n4 n5 m1 m2 m3 m4 m5 e4 hN hT
          simp -dsimp -implicitDefEqProofs (disch := omega) [go_sem, -List.getD_eq_getElem?_getD, ite_yes, ht, hlt, nf, tf, n1, n2, n3, n4, n5, m1, m2, m3, m4, m5, k1, k2]
          refine ADraw.mid [(0, .slice (some ⟨t, 0, none⟩) l.length c), (4, .slice (some ⟨H.length, 0, none⟩) (n + 1) 0), (5, .slice (some ⟨H.length + 1, 0, none⟩) n 0), (6, .int .i64 i), (7, .int .i64 (0 : Nat))] (H ++ [some ⟨N'.flatMap nmE, true, 3, 1⟩, some ⟨T.flatMap nmE, true, 3, 1⟩]) ?_ ?_
          · skip
            refine ADraw.any (H ++ [some ⟨N.flatMap nmE, true, 3, 1⟩, some ⟨T.flatMap nmE, true, 3, 1⟩]) (by kernel_rfl) (by first | exact SubH.refl | exact SubH.app | exact SubH.both (by simp [subL])) ?_
            refine AAny.takes (fuel := 6) (by kernel_rfl) (by kernel_rfl) [1, 2, 3, 5, 6, 7, 8, 9, 12, 13, 14] (by kernel_rfl) (by kernel_rfl) ?_
            simp -dsimp -implicitDefEqProofs (disch := omega) [go_sem, -List.getD_eq_getElem?_getD, ite_yes, ht, hlt, nf, tf, n1, n2, n3, n4, n5, m1, m2, m3, m4, m5, k1, k2]
            refine AAny.two 5 0 10 (by kernel_rfl) (by kernel_rfl) (by kernel_rfl) ?_ ?_
            · simp -dsimp -implicitDefEqProofs (disch := omega) [go_sem, -List.getD_eq_getElem?_getD, ite_yes, ht, hlt, nf, tf, n1, n2, n3, n4, n5, m1, m2, m3, m4, m5, k1, k2]
              first | refine AAt.of (by first | exact SubH.refl | exact SubH.app | exact SubH.both (by simp [subL])) ?_ | (refine ⟨?_, AAt.of (by first | exact SubH.refl | exact SubH.app | exact SubH.both (by simp [subL])) ?_⟩; · omega)
              refine AAny.two 4 4 10 (by kernel_rfl) (by kernel_rfl) (by kernel_rfl) ?_ ?_
              · simp -dsimp -implicitDefEqProofs (disch := omega) [go_sem, -List.getD_eq_getElem?_getD, ite_yes, ht, hlt, nf, tf, n1, n2, n3, n4, n5, m1, m2, m3, m4, m5, k1, k2]
                first | refine AAt.of (by first | exact SubH.refl | exact SubH.app | exact SubH.both (by simp [subL])) ?_ | (refine ⟨?_, AAt.of (by first | exact SubH.refl | exact SubH.app | exact SubH.both (by simp [subL])) ?_⟩; · omega)
                refine AAny.one 3 10 (by kernel_rfl) (by kernel_rfl) (by kernel_rfl) ?_
                simp -dsimp -implicitDefEqProofs (disch := omega) [go_sem, -List.getD_eq_getElem?_getD, ite_yes, ht, hlt, nf, tf, n1, n2, n3, n4, n5, m1, m2, m3, m4, m5, k1, k2]
                first | refine AAt.of (by first | exact SubH.refl | exact SubH.app | exact SubH.both (by simp [subL])) ?_ | (refine ⟨?_, AAt.of (by first | exact SubH.refl | exact SubH.app | exact SubH.both (by simp [subL])) ?_⟩; · omega)
                refine AAny.one 2 11 (by kernel_rfl) (by kernel_rfl) (by kernel_rfl) ?_
                simp -dsimp -implicitDefEqProofs (disch := omega) [go_sem, -List.getD_eq_getElem?_getD, ite_yes, ht, hlt, nf, tf, n1, n2, n3, n4, n5, m1, m2, m3, m4, m5, k1, k2]
                first | refine AAt.of (by first | exact SubH.refl | exact SubH.app | exact SubH.both (by simp [subL])) ?_ | (refine ⟨?_, AAt.of (by first | exact SubH.refl | exact SubH.app | exact SubH.both (by simp [subL])) ?_⟩; · omega)
                refine AAny.one 1 15 (by kernel_rfl) (by kernel_rfl) (by kernel_rfl) ?_
                simp -dsimp -implicitDefEqProofs (disch := omega) [go_sem, -List.getD_eq_getElem?_getD, ite_yes, ht, hlt, nf, tf, n1, n2, n3, n4, n5, m1, m2, m3, m4, m5, k1, k2]
                first | refine AAt.of (by first | exact SubH.refl | exact SubH.app | exact SubH.both (by simp [subL])) ?_ | (refine ⟨?_, AAt.of (by first | exact SubH.refl | exact SubH.app | exact SubH.both (by simp [subL])) ?_⟩; · omega)
                refine AAny.takes (fuel := 0) (by kernel_rfl) (by kernel_rfl) [16] (by kernel_rfl) (by kernel_rfl) ?_
                simp -dsimp -implicitDefEqProofs (disch := omega) [go_sem, -List.getD_eq_getElem?_getD, ite_yes, ht, hlt, nf, tf, n1, n2, n3, n4, n5, m1, m2, m3, m4, m5, k1, k2]
                refine AAny.done (by kernel_rfl) ?_
                simp -dsimp -implicitDefEqProofs (disch := omega) [go_sem, -List.getD_eq_getElem?_getD, ite_yes, ht, hlt, nf, tf, n1, n2, n3, n4, n5, m1, m2, m3, m4, m5, k1, k2]
                refine ⟨weakS_mk [some 6, some 1] rfl ?_ (by simp -dsimp -implicitDefEqProofs (disch := omega) [go_sem, -List.getD_eq_getElem?_getD, ite_yes, ht, e4])⟩
                simp -dsimp -implicitDefEqProofs (disch := omega) [go_sem, -List.getD_eq_getElem?_getD, ite_yes, ht, hlt, nf, tf, n1, n2, n3, n4, n5, m1, m2, m3, m4, m5, k1, k2]
                exact ⟨.inl ⟨hN, hN ▸ nmE_flat N'⟩, .inl ⟨rfl, nmE_flat _⟩⟩
              · simp -dsimp -implicitDefEqProofs (disch := omega) [go_sem, -List.getD_eq_getElem?_getD, ite_yes, ht, hlt, nf, tf, n1, n2, n3, n4, n5, m1, m2, m3, m4, m5, k1, k2]
                first | refine AAt.of (by first | exact SubH.refl | exact SubH.app | exact SubH.both (by simp [subL])) ?_ | (refine ⟨?_, AAt.of (by first | exact SubH.refl | exact SubH.app | exact SubH.both (by simp [subL])) ?_⟩; · omega)
                refine AAny.one 3 4 (by kernel_rfl) (by kernel_rfl) (by kernel_rfl) ?_
                simp -dsimp -implicitDefEqProofs (disch := omega) [go_sem, -List.getD_eq_getElem?_getD, ite_yes, ht, hlt, nf, tf, n1, n2, n3, n4, n5, m1, m2, m3, m4, m5, k1, k2]
                first | refine AAt.of (by first | exact SubH.refl | exact SubH.app | exact SubH.both (by simp [subL])) ?_ | (refine ⟨?_, AAt.of (by first | exact SubH.refl | exact SubH.app | exact SubH.both (by simp [subL])) ?_⟩; · omega)
                refine AAny.one 2 11 (by kernel_rfl) (by kernel_rfl) (by kernel_rfl) ?_
                simp -dsimp -implicitDefEqProofs (disch := omega) [go_sem, -List.getD_eq_getElem?_getD, ite_yes, ht, hlt, nf, tf, n1, n2, n3, n4, n5, m1, m2, m3, m4, m5, k1, k2]
                first | refine AAt.of (by first | exact SubH.refl | exact SubH.app | exact SubH.both (by simp [subL])) ?_ | (refine ⟨?_, AAt.of (by first | exact SubH.refl | exact SubH.app | exact SubH.both (by simp [subL])) ?_⟩; · omega)
                refine AAny.one 1 15 (by kernel_rfl) (by kernel_rfl) (by kernel_rfl) ?_
                simp -dsimp -implicitDefEqProofs (disch := omega) [go_sem, -List.getD_eq_getElem?_getD, ite_yes, ht, hlt, nf, tf, n1, n2, n3, n4, n5, m1, m2, m3, m4, m5, k1, k2]
                first | refine AAt.of (by first | exact SubH.refl | exact SubH.app | exact SubH.both (by simp [subL])) ?_ | (refine ⟨?_, AAt.of (by first | exact SubH.refl | exact SubH.app | exact SubH.both (by simp [subL])) ?_⟩; · omega)
                refine AAny.takes (fuel := 0) (by kernel_rfl) (by kernel_rfl) [16] (by kernel_rfl) (by kernel_rfl) ?_
                simp -dsimp -implicitDefEqProofs (disch := omega) [go_sem, -List.getD_eq_getElem?_getD, ite_yes, ht, hlt, nf, tf, n1, n2, n3, n4, n5, m1, m2, m3, m4, m5, k1, k2]
                refine AAny.done (by kernel_rfl) ?_
                simp -dsimp -implicitDefEqProofs (disch := omega) [go_sem, -List.getD_eq_getElem?_getD, ite_yes, ht, hlt, nf, tf, n1, n2, n3, n4, n5, m1, m2, m3, m4, m5, k1, k2]
                refine ⟨weakS_mk [some 6, some 1] rfl ?_ (by simp -dsimp -implicitDefEqProofs (disch := omega) [go_sem, -List.getD_eq_getElem?_getD, ite_yes, ht, e4])⟩
                simp -dsimp -implicitDefEqProofs (disch := omega) [go_sem, -List.getD_eq_getElem?_getD, ite_yes, ht, hlt, nf, tf, n1, n2, n3, n4, n5, m1, m2, m3, m4, m5, k1, k2]
                exact ⟨.inl ⟨hN, hN ▸ nmE_flat N'⟩, .inl ⟨rfl, nmE_flat _⟩⟩
            · simp -dsimp -implicitDefEqProofs (disch := omega) [go_sem, -List.getD_eq_getElem?_getD, ite_yes, ht, hlt, nf, tf, n1, n2, n3, n4, n5, m1, m2, m3, m4, m5, k1, k2]
              first | refine AAt.of (by first | exact SubH.refl | exact SubH.app | exact SubH.both (by simp [subL])) ?_ | (refine ⟨?_, AAt.of (by first | exact SubH.refl | exact SubH.app | exact SubH.both (by simp [subL])) ?_⟩; · omega)
              refine AAny.one 4 0 (by kernel_rfl) (by kernel_rfl) (by kernel_rfl) ?_
              simp -dsimp -implicitDefEqProofs (disch := omega) [go_sem, -List.getD_eq_getElem?_getD, ite_yes, ht, hlt, nf, tf, n1, n2, n3, n4, n5, m1, m2, m3, m4, m5, k1, k2]
              first | refine AAt.of (by first | exact SubH.refl | exact SubH.app | exact SubH.both (by simp [subL])) ?_ | (refine ⟨?_, AAt.of (by first | exact SubH.refl | exact SubH.app | exact SubH.both (by simp [subL])) ?_⟩; · omega)
              refine AAny.one 3 4 (by kernel_rfl) (by kernel_rfl) (by kernel_rfl) ?_
              simp -dsimp -implicitDefEqProofs (disch := omega) [go_sem, -List.getD_eq_getElem?_getD, ite_yes, ht, hlt, nf, tf, n1, n2, n3, n4, n5, m1, m2, m3, m4, m5, k1, k2]
              first | refine AAt.of (by first | exact SubH.refl | exact SubH.app | exact SubH.both (by simp [subL])) ?_ | (refine ⟨?_, AAt.of (by first | exact SubH.refl | exact SubH.app | exact SubH.both (by simp [subL])) ?_⟩; · omega)
              refine AAny.one 2 11 (by kernel_rfl) (by kernel_rfl) (by kernel_rfl) ?_
              simp -dsimp -implicitDefEqProofs (disch := omega) [go_sem, -List.getD_eq_getElem?_getD, ite_yes, ht, hlt, nf, tf, n1, n2, n3, n4, n5, m1, m2, m3, m4, m5, k1, k2]
              first | refine AAt.of (by first | exact SubH.refl | exact SubH.app | exact SubH.both (by simp [subL])) ?_ | (refine ⟨?_, AAt.of (by first | exact SubH.refl | exact SubH.app | exact SubH.both (by simp [subL])) ?_⟩; · omega)
              refine AAny.one 1 15 (by kernel_rfl) (by kernel_rfl) (by kernel_rfl) ?_
              simp -dsimp -implicitDefEqProofs (disch := omega) [go_sem, -List.getD_eq_getElem?_getD, ite_yes, ht, hlt, nf, tf, n1, n2, n3, n4, n5, m1, m2, m3, m4, m5, k1, k2]
              first | refine AAt.of (by first | exact SubH.refl | exact SubH.app | exact SubH.both (by simp [subL])) ?_ | (refine ⟨?_, AAt.of (by first | exact SubH.refl | exact SubH.app | exact SubH.both (by simp [subL])) ?_⟩; · omega)
              refine AAny.takes (fuel := 0) (by kernel_rfl) (by kernel_rfl) [16] (by kernel_rfl) (by kernel_rfl) ?_
              simp -dsimp -implicitDefEqProofs (disch := omega) [go_sem, -List.getD_eq_getElem?_getD, ite_yes, ht, hlt, nf, tf, n1, n2, n3, n4, n5, m1, m2, m3, m4, m5, k1, k2]
              refine AAny.done (by kernel_rfl) ?_
              simp -dsimp -implicitDefEqProofs (disch := omega) [go_sem, -List.getD_eq_getElem?_getD, ite_yes, ht, hlt, nf, tf, n1, n2, n3, n4, n5, m1, m2, m3, m4, m5, k1, k2]
              refine ⟨weakS_mk [some 6, some 1] rfl ?_ (by simp -dsimp -implicitDefEqProofs (disch := omega) [go_sem, -List.getD_eq_getElem?_getD, ite_yes, ht, e4])⟩
              simp -dsimp -implicitDefEqProofs (disch := omega) [go_sem, -List.getD_eq_getElem?_getD, ite_yes, ht, hlt, nf, tf, n1, n2, n3, n4, n5, m1, m2, m3, m4, m5, k1, k2]
              exact ⟨.inl ⟨hN, hN ▸ nmE_flat N'⟩, .inl ⟨rfl, nmE_flat _⟩⟩
          have nf' : (N'.flatMap nmE).length = n + 1 := by rw [nmE_length, nl']; omega
          simp -dsimp -implicitDefEqProofs (disch := omega) [go_sem, -List.getD_eq_getElem?_getD, ite_yes, ht, hlt, nf, tf, n1, n2, n3, n4, n5, m1, m2, m3, m4, m5, k1, k2, nf']
          refine ADraw.any (H ++ [some ⟨N'.flatMap nmE, true, 3, 1⟩, some ⟨T.flatMap nmE, true, 3, 1⟩]) (by kernel_rfl) (by first | exact SubH.refl | exact SubH.app | exact SubH.both (by simp [subL])) ?_
          refine AAny.takes (fuel := 6) (by kernel_rfl) (by kernel_rfl) [1, 2, 3, 5, 6, 7, 8, 9, 12, 13, 14] (by kernel_rfl) (by kernel_rfl) ?_
          simp -dsimp -implicitDefEqProofs (disch := omega) [go_sem, -List.getD_eq_getElem?_getD, ite_yes, ht, hlt, nf, tf, n1, n2, n3, n4, n5, m1, m2, m3, m4, m5, k1, k2, nf']
          refine AAny.two 5 0 10 (by kernel_rfl) (by kernel_rfl) (by kernel_rfl) ?_ ?_
          · simp -dsimp -implicitDefEqProofs (disch := omega) [go_sem, -List.getD_eq_getElem?_getD, ite_yes, ht, hlt, nf, tf, n1, n2, n3, n4, n5, m1, m2, m3, m4, m5, k1, k2, nf']
            first | refine AAt.of (by first | exact SubH.refl | exact SubH.app | exact SubH.both (by simp [subL])) ?_ | (refine ⟨?_, AAt.of (by first | exact SubH.refl | exact SubH.app | exact SubH.both (by simp [subL])) ?_⟩; · omega)
            refine AAny.two 4 4 10 (by kernel_rfl) (by kernel_rfl) (by kernel_rfl) ?_ ?_
            · simp -dsimp -implicitDefEqProofs (disch := omega) [go_sem, -List.getD_eq_getElem?_getD, ite_yes, ht, hlt, nf, tf, n1, n2, n3, n4, n5, m1, m2, m3, m4, m5, k1, k2, nf']
              first | refine AAt.of (by first | exact SubH.refl | exact SubH.app | exact SubH.both (by simp [subL])) ?_ | (refine ⟨?_, AAt.of (by first | exact SubH.refl | exact SubH.app | exact SubH.both (by simp [subL])) ?_⟩; · omega)
              refine AAny.one 3 10 (by kernel_rfl) (by kernel_rfl) (by kernel_rfl) ?_
              simp -dsimp -implicitDefEqProofs (disch := omega) [go_sem, -List.getD_eq_getElem?_getD, ite_yes, ht, hlt, nf, tf, n1, n2, n3, n4, n5, m1, m2, m3, m4, m5, k1, k2, nf']
              first | refine AAt.of (by first | exact SubH.refl | exact SubH.app | exact SubH.both (by simp [subL])) ?_ | (refine ⟨?_, AAt.of (by first | exact SubH.refl | exact SubH.app | exact SubH.both (by simp [subL])) ?_⟩; · omega)
              refine AAny.one 2 11 (by kernel_rfl) (by kernel_rfl) (by kernel_rfl) ?_
              simp -dsimp -implicitDefEqProofs (disch := omega) [go_sem, -List.getD_eq_getElem?_getD, ite_yes, ht, hlt, nf, tf, n1, n2, n3, n4, n5, m1, m2, m3, m4, m5, k1, k2, nf']
              first | refine AAt.of (by first | exact SubH.refl | exact SubH.app | exact SubH.both (by simp [subL])) ?_ | (refine ⟨?_, AAt.of (by first | exact SubH.refl | exact SubH.app | exact SubH.both (by simp [subL])) ?_⟩; · omega)
              refine AAny.one 1 15 (by kernel_rfl) (by kernel_rfl) (by kernel_rfl) ?_
              simp -dsimp -implicitDefEqProofs (disch := omega) [go_sem, -List.getD_eq_getElem?_getD, ite_yes, ht, hlt, nf, tf, n1, n2, n3, n4, n5, m1, m2, m3, m4, m5, k1, k2, nf']
              first | refine AAt.of (by first | exact SubH.refl | exact SubH.app | exact SubH.both (by simp [subL])) ?_ | (refine ⟨?_, AAt.of (by first | exact SubH.refl | exact SubH.app | exact SubH.both (by simp [subL])) ?_⟩; · omega)
              refine AAny.takes (fuel := 0) (by kernel_rfl) (by kernel_rfl) [16] (by kernel_rfl) (by kernel_rfl) ?_
              simp -dsimp -implicitDefEqProofs (disch := omega) [go_sem, -List.getD_eq_getElem?_getD, ite_yes, ht, hlt, nf, tf, n1, n2, n3, n4, n5, m1, m2, m3, m4, m5, k1, k2, nf']
              refine AAny.done (by kernel_rfl) ?_
              simp -dsimp -implicitDefEqProofs (disch := omega) [go_sem, -List.getD_eq_getElem?_getD, ite_yes, ht, hlt, nf, tf, n1, n2, n3, n4, n5, m1, m2, m3, m4, m5, k1, k2, nf']
              refine LoopEnd.of (i + 1) (by omega) (by omega) (weakS_mk [some 0, some 6] rfl ?_ (by simp -dsimp -implicitDefEqProofs (disch := omega) [go_sem, -List.getD_eq_getElem?_getD, ite_yes, ht, e4, unl]))
              simp -dsimp -implicitDefEqProofs (disch := omega) [go_sem, -List.getD_eq_getElem?_getD, ite_yes, ht, hlt, nf, tf, n1, n2, n3, n4, n5, m1, m2, m3, m4, m5, k1, k2, us, hN'e, hT'e]
              exact ⟨.inl ⟨rfl, nmE_flat _⟩, .inl ⟨hT, hT ▸ nmE_flat T'⟩⟩
            · simp -dsimp -implicitDefEqProofs (disch := omega) [go_sem, -List.getD_eq_getElem?_getD, ite_yes, ht, hlt, nf, tf, n1, n2, n3, n4, n5, m1, m2, m3, m4, m5, k1, k2, nf']
              first | refine AAt.of (by first | exact SubH.refl | exact SubH.app | exact SubH.both (by simp [subL])) ?_ | (refine ⟨?_, AAt.of (by first | exact SubH.refl | exact SubH.app | exact SubH.both (by simp [subL])) ?_⟩; · omega)
              refine AAny.one 3 4 (by kernel_rfl) (by kernel_rfl) (by kernel_rfl) ?_
              simp -dsimp -implicitDefEqProofs (disch := omega) [go_sem, -List.getD_eq_getElem?_getD, ite_yes, ht, hlt, nf, tf, n1, n2, n3, n4, n5, m1, m2, m3, m4, m5, k1, k2, nf']
              first | refine AAt.of (by first | exact SubH.refl | exact SubH.app | exact SubH.both (by simp [subL])) ?_ | (refine ⟨?_, AAt.of (by first | exact SubH.refl | exact SubH.app | exact SubH.both (by simp [subL])) ?_⟩; · omega)
              refine AAny.one 2 11 (by kernel_rfl) (by kernel_rfl) (by kernel_rfl) ?_
              simp -dsimp -implicitDefEqProofs (disch := omega) [go_sem, -List.getD_eq_getElem?_getD, ite_yes, ht, hlt, nf, tf, n1, n2, n3, n4, n5, m1, m2, m3, m4, m5, k1, k2, nf']
              first | refine AAt.of (by first | exact SubH.refl | exact SubH.app | exact SubH.both (by simp [subL])) ?_ | (refine ⟨?_, AAt.of (by first | exact SubH.refl | exact SubH.app | exact SubH.both (by simp [subL])) ?_⟩; · omega)
              refine AAny.one 1 15 (by kernel_rfl) (by kernel_rfl) (by kernel_rfl) ?_
              simp -dsimp -implicitDefEqProofs (disch := omega) [go_sem, -List.getD_eq_getElem?_getD, ite_yes, ht, hlt, nf, tf, n1, n2, n3, n4, n5, m1, m2, m3, m4, m5, k1, k2, nf']
              first | refine AAt.of (by first | exact SubH.refl | exact SubH.app | exact SubH.both (by simp [subL])) ?_ | (refine ⟨?_, AAt.of (by first | exact SubH.refl | exact SubH.app | exact SubH.both (by simp [subL])) ?_⟩; · omega)
              refine AAny.takes (fuel := 0) (by kernel_rfl) (by kernel_rfl) [16] (by kernel_rfl) (by kernel_rfl) ?_
              simp -dsimp -implicitDefEqProofs (disch := omega) [go_sem, -List.getD_eq_getElem?_getD, ite_yes, ht, hlt, nf, tf, n1, n2, n3, n4, n5, m1, m2, m3, m4, m5, k1, k2, nf']
              refine AAny.done (by kernel_rfl) ?_
              simp -dsimp -implicitDefEqProofs (disch := omega) [go_sem, -List.getD_eq_getElem?_getD, ite_yes, ht, hlt, nf, tf, n1, n2, n3, n4, n5, m1, m2, m3, m4, m5, k1, k2, nf']
              refine LoopEnd.of (i + 1) (by omega) (by omega) (weakS_mk [some 0, some 6] rfl ?_ (by simp -dsimp -implicitDefEqProofs (disch := omega) [go_sem, -List.getD_eq_getElem?_getD, ite_yes, ht, e4, unl]))
              simp -dsimp -implicitDefEqProofs (disch := omega) [go_sem, -List.getD_eq_getElem?_getD, ite_yes, ht, hlt, nf, tf, n1, n2, n3, n4, n5, m1, m2, m3, m4, m5, k1, k2, us, hN'e, hT'e]
              exact ⟨.inl ⟨rfl, nmE_flat _⟩, .inl ⟨hT, hT ▸ nmE_flat T'⟩⟩
          · simp -dsimp -implicitDefEqProofs (disch := omega) [go_sem, -List.getD_eq_getElem?_getD, ite_yes, ht, hlt, nf, tf, n1, n2, n3, n4, n5, m1, m2, m3, m4, m5, k1, k2, nf']
            first | refine AAt.of (by first | exact SubH.refl | exact SubH.app | exact SubH.both (by simp [subL])) ?_ | (refine ⟨?_, AAt.of (by first | exact SubH.refl | exact SubH.app | exact SubH.both (by simp [subL])) ?_⟩; · omega)
            refine AAny.one 4 0 (by kernel_rfl) (by kernel_rfl) (by kernel_rfl) ?_
            simp -dsimp -implicitDefEqProofs (disch := omega) [go_sem, -List.getD_eq_getElem?_getD, ite_yes, ht, hlt, nf, tf, n1, n2, n3, n4, n5, m1, m2, m3, m4, m5, k1, k2, nf']
            first | refine AAt.of (by first | exact SubH.refl | exact SubH.app | exact SubH.both (by simp [subL])) ?_ | (refine ⟨?_, AAt.of (by first | exact SubH.refl | exact SubH.app | exact SubH.both (by simp [subL])) ?_⟩; · omega)
            refine AAny.one 3 4 (by kernel_rfl) (by kernel_rfl) (by kernel_rfl) ?_
            simp -dsimp -implicitDefEqProofs (disch := omega) [go_sem, -List.getD_eq_getElem?_getD, ite_yes, ht, hlt, nf, tf, n1, n2, n3, n4, n5, m1, m2, m3, m4, m5, k1, k2, nf']
            first | refine AAt.of (by first | exact SubH.refl | exact SubH.app | exact SubH.both (by simp [subL])) ?_ | (refine ⟨?_, AAt.of (by first | exact SubH.refl | exact SubH.app | exact SubH.both (by simp [subL])) ?_⟩; · omega)
            refine AAny.one 2 11 (by kernel_rfl) (by kernel_rfl) (by kernel_rfl) ?_
            simp -dsimp -implicitDefEqProofs (disch := omega) [go_sem, -List.getD_eq_getElem?_getD, ite_yes, ht, hlt, nf, tf, n1, n2, n3, n4, n5, m1, m2, m3, m4, m5, k1, k2, nf']
            first | refine AAt.of (by first | exact SubH.refl | exact SubH.app | exact SubH.both (by simp [subL])) ?_ | (refine ⟨?_, AAt.of (by first | exact SubH.refl | exact SubH.app | exact SubH.both (by simp [subL])) ?_⟩; · omega)
            refine AAny.one 1 15 (by kernel_rfl) (by kernel_rfl) (by kernel_rfl) ?_
            simp -dsimp -implicitDefEqProofs (disch := omega) [go_sem, -List.getD_eq_getElem?_getD, ite_yes, ht, hlt, nf, tf, n1, n2, n3, n4, n5, m1, m2, m3, m4, m5, k1, k2, nf']
            first | refine AAt.of (by first | exact SubH.refl | exact SubH.app | exact SubH.both (by simp [subL])) ?_ | (refine ⟨?_, AAt.of (by first | exact SubH.refl | exact SubH.app | exact SubH.both (by simp [subL])) ?_⟩; · omega)
            refine AAny.takes (fuel := 0) (by kernel_rfl) (by kernel_rfl) [16] (by kernel_rfl) (by kernel_rfl) ?_
            simp -dsimp -implicitDefEqProofs (disch := omega) [go_sem, -List.getD_eq_getElem?_getD, ite_yes, ht, hlt, nf, tf, n1, n2, n3, n4, n5, m1, m2, m3, m4, m5, k1, k2, nf']
            refine AAny.done (by kernel_rfl) ?_
            simp -dsimp -implicitDefEqProofs (disch := omega) [go_sem, -List.getD_eq_getElem?_getD, ite_yes, ht, hlt, nf, tf, n1, n2, n3, n4, n5, m1, m2, m3, m4, m5, k1, k2, nf']
            refine LoopEnd.of (i + 1) (by omega) (by omega) (weakS_mk [some 0, some 6] rfl ?_ (by simp -dsimp -implicitDefEqProofs (disch := omega) [go_sem, -List.getD_eq_getElem?_getD, ite_yes, ht, e4, unl]))
            simp -dsimp -implicitDefEqProofs (disch := omega) [go_sem, -List.getD_eq_getElem?_getD, ite_yes, ht, hlt, nf, tf, n1, n2, n3, n4, n5, m1, m2, m3, m4, m5, k1, k2, us, hN'e, hT'e]
            exact ⟨.inl ⟨rfl, nmE_flat _⟩, .inl ⟨hT, hT ▸ nmE_flat T'⟩⟩
        | succ k =>
          have hkn : k < n := by omega
          have hp : posA O x (k + 1) = if x.2.2.1 < (O.getD k alD).2.2.1 then posA O x k else k + 1 := rfl
          have cT := flatMap_cells nmE 1 (fun _ => rfl) 0 T k (by omega)
          rw [Nat.mul_one, tk k hkn] at cT
          simp only [nmE] at cT
          generalize (O.getD k alD).2.2.1 = y at hp cT
          simp -dsimp -implicitDefEqProofs (disch := omega) [go_sem, -List.getD_eq_getElem?_getD, ite_yes, ht]
          refine ADraw.quiet (by kernel_rfl) (by kernel_rfl) (by kernel_rfl) ?_
          simp -dsimp -implicitDefEqProofs (disch := omega) [go_sem, -List.getD_eq_getElem?_getD, ite_yes, ht, hkn, tf, cT, hlt, k2]
          refine AIf.of (fun h => ?_) (fun h => ?_)
          · rw [if_pos (of_decide_eq_true h)] at hp
            simp -dsimp -implicitDefEqProofs (disch := omega) [go_sem, -List.getD_eq_getElem?_getD, ite_yes, ht]
            refine LoopEnd.of k ⟨by omega, by rw [hpos, hp]⟩ (by omega) (weakS_mk [some 0, some 1] rfl ?_ (by simp -dsimp -implicitDefEqProofs (disch := omega) [go_sem, -List.getD_eq_getElem?_getD, ite_yes, ht]))
            simp -dsimp -implicitDefEqProofs (disch := omega) [go_sem, -List.getD_eq_getElem?_getD, ite_yes, hNe, hTe]
            exact ⟨.inl ⟨rfl, nmE_flat _⟩, .inl ⟨rfl, nmE_flat _⟩⟩
          · rw [if_neg (of_decide_eq_false h)] at hp
            rw [hp] at hpos
            have n1 := un_take N (k + 1)
            have n2 := un_drop N (k + 1)
            have n3 : (List.flatMap nmE (List.take (k + 1) N)).length = k + 1 := by rw [nmE_length, List.length_take]; omega
            have n4 : (List.flatMap nmE (List.drop (k + 1) N)).length = n - (k + 1) := by rw [nmE_length, List.length_drop]; omega
            have n5 : List.take (n - (k + 1)) (List.flatMap nmE (List.drop (k + 1) N)) = List.flatMap nmE (List.drop (k + 1) N) := List.take_of_length_le (by omega)
            have m1 := un_take T (k + 1)
            have m2 := un_drop T (k + 1)
            have m3 : (List.flatMap nmE (List.take (k + 1) T)).length = k + 1 := by rw [nmE_length, List.length_take]; omega
            have m4 : (List.flatMap nmE (List.drop (k + 1) T)).length = n - (k + 1) := by rw [nmE_length, List.length_drop]; omega
            have m5 : List.take (n - (k + 1)) (List.flatMap nmE (List.drop (k + 1) T)) = List.flatMap nmE (List.drop (k + 1) T) := List.take_of_length_le (by omega)
            have e4 : (k + 1) + 1 + (n - (k + 1)) = n + 1 := by omega
            have hN : N'.flatMap nmE = (N.take (k + 1)).flatMap nmE ++ Value.int .i64 x.1 :: (N.drop (k + 1)).flatMap nmE := hi1 (k + 1) hpos
            have hT : T'.flatMap nmE = (T.take (k + 1)).flatMap nmE ++ Value.int .i64 x.2.2.1 :: (T.drop (k + 1)).flatMap nmE := hi2 (k + 1) hpos
            try simp only [List.drop_zero, List.take_zero, List.flatMap_nil, Nat.sub_zero, List.nil_append, Nat.zero_add] at n1 n2 n3 n4 n5 m1 m2 m3 m4 m5 e4 hN hT
            simp -dsimp -implicitDefEqProofs (disch := omega) [go_sem, -List.getD_eq_getElem?_getD, ite_yes, ht, hlt, nf, tf, n1, n2, n3, n4, n5, m1, m2, m3, m4, m5, k1, k2]
            refine ADraw.mid [(0, .slice (some ⟨t, 0, none⟩) l.length c), (4, .slice (some ⟨H.length, 0, none⟩) (n + 1) 0), (5, .slice (some ⟨H.length + 1, 0, none⟩) n 0), (6, .int .i64 i), (7, .int .i64 (k + 1 : Nat))] (H ++ [some ⟨N'.flatMap nmE, true, 3, 1⟩, some ⟨T.flatMap nmE, true, 3, 1⟩]) ?_ ?_
            · skip
              refine ADraw.any (H ++ [some ⟨N.flatMap nmE, true, 3, 1⟩, some ⟨T.flatMap nmE, true, 3, 1⟩]) (by kernel_rfl) (by first | exact SubH.refl | exact SubH.app | exact SubH.both (by simp [subL])) ?_
              refine AAny.takes (fuel := 6) (by kernel_rfl) (by kernel_rfl) [1, 2, 3, 5, 6, 7, 8, 9, 12, 13, 14] (by kernel_rfl) (by kernel_rfl) ?_
              simp -dsimp -implicitDefEqProofs (disch := omega) [go_sem, -List.getD_eq_getElem?_getD, ite_yes, ht, hlt, nf, tf, n1, n2, n3, n4, n5, m1, m2, m3, m4, m5, k1, k2]
              refine AAny.two 5 0 10 (by kernel_rfl) (by kernel_rfl) (by kernel_rfl) ?_ ?_
              · simp -dsimp -implicitDefEqProofs (disch := omega) [go_sem, -List.getD_eq_getElem?_getD, ite_yes, ht, hlt, nf, tf, n1, n2, n3, n4, n5, m1, m2, m3, m4, m5, k1, k2]
                first | refine AAt.of (by first | exact SubH.refl | exact SubH.app | exact SubH.both (by simp [subL])) ?_ | (refine ⟨?_, AAt.of (by first | exact SubH.refl | exact SubH.app | exact SubH.both (by simp [subL])) ?_⟩; · omega)
                refine AAny.two 4 4 10 (by kernel_rfl) (by kernel_rfl) (by kernel_rfl) ?_ ?_
                · simp -dsimp -implicitDefEqProofs (disch := omega) [go_sem, -List.getD_eq_getElem?_getD, ite_yes, ht, hlt, nf, tf, n1, n2, n3, n4, n5, m1, m2, m3, m4, m5, k1, k2]
                  first | refine AAt.of (by first | exact SubH.refl | exact SubH.app | exact SubH.both (by simp [subL])) ?_ | (refine ⟨?_, AAt.of (by first | exact SubH.refl | exact SubH.app | exact SubH.both (by simp [subL])) ?_⟩; · omega)
                  refine AAny.one 3 10 (by kernel_rfl) (by kernel_rfl) (by kernel_rfl) ?_
                  simp -dsimp -implicitDefEqProofs (disch := omega) [go_sem, -List.getD_eq_getElem?_getD, ite_yes, ht, hlt, nf, tf, n1, n2, n3, n4, n5, m1, m2, m3, m4, m5, k1, k2]
                  first | refine AAt.of (by first | exact SubH.refl | exact SubH.app | exact SubH.both (by simp [subL])) ?_ | (refine ⟨?_, AAt.of (by first | exact SubH.refl | exact SubH.app | exact SubH.both (by simp [subL])) ?_⟩; · omega)
                  refine AAny.one 2 11 (by kernel_rfl) (by kernel_rfl) (by kernel_rfl) ?_
                  simp -dsimp -implicitDefEqProofs (disch := omega) [go_sem, -List.getD_eq_getElem?_getD, ite_yes, ht, hlt, nf, tf, n1, n2, n3, n4, n5, m1, m2, m3, m4, m5, k1, k2]
                  first | refine AAt.of (by first | exact SubH.refl | exact SubH.app | exact SubH.both (by simp [subL])) ?_ | (refine ⟨?_, AAt.of (by first | exact SubH.refl | exact SubH.app | exact SubH.both (by simp [subL])) ?_⟩; · omega)
                  refine AAny.one 1 15 (by kernel_rfl) (by kernel_rfl) (by kernel_rfl) ?_
                  simp -dsimp -implicitDefEqProofs (disch := omega) [go_sem, -List.getD_eq_getElem?_getD, ite_yes, ht, hlt, nf, tf, n1, n2, n3, n4, n5, m1, m2, m3, m4, m5, k1, k2]
                  first | refine AAt.of (by first | exact SubH.refl | exact SubH.app | exact SubH.both (by simp [subL])) ?_ | (refine ⟨?_, AAt.of (by first | exact SubH.refl | exact SubH.app | exact SubH.both (by simp [subL])) ?_⟩; · omega)
                  refine AAny.takes (fuel := 0) (by kernel_rfl) (by kernel_rfl) [16] (by kernel_rfl) (by kernel_rfl) ?_
                  simp -dsimp -implicitDefEqProofs (disch := omega) [go_sem, -List.getD_eq_getElem?_getD, ite_yes, ht, hlt, nf, tf, n1, n2, n3, n4, n5, m1, m2, m3, m4, m5, k1, k2]
                  refine AAny.done (by kernel_rfl) ?_
                  simp -dsimp -implicitDefEqProofs (disch := omega) [go_sem, -List.getD_eq_getElem?_getD, ite_yes, ht, hlt, nf, tf, n1, n2, n3, n4, n5, m1, m2, m3, m4, m5, k1, k2]
                  refine ⟨weakS_mk [some 6, some 1] rfl ?_ (by simp -dsimp -implicitDefEqProofs (disch := omega) [go_sem, -List.getD_eq_getElem?_getD, ite_yes, ht, e4])⟩
                  simp -dsimp -implicitDefEqProofs (disch := omega) [go_sem, -List.getD_eq_getElem?_getD, ite_yes, ht, hlt, nf, tf, n1, n2, n3, n4, n5, m1, m2, m3, m4, m5, k1, k2]
                  exact ⟨.inl ⟨hN, hN ▸ nmE_flat N'⟩, .inl ⟨rfl, nmE_flat _⟩⟩
                · simp -dsimp -implicitDefEqProofs (disch := omega) [go_sem, -List.getD_eq_getElem?_getD, ite_yes, ht, hlt, nf, tf, n1, n2, n3, n4, n5, m1, m2, m3, m4, m5, k1, k2]
                  first | refine AAt.of (by first | exact SubH.refl | exact SubH.app | exact SubH.both (by simp [subL])) ?_ | (refine ⟨?_, AAt.of (by first | exact SubH.refl | exact SubH.app | exact SubH.both (by simp [subL])) ?_⟩; · omega)
                  refine AAny.one 3 4 (by kernel_rfl) (by kernel_rfl) (by kernel_rfl) ?_
                  simp -dsimp -implicitDefEqProofs (disch := omega) [go_sem, -List.getD_eq_getElem?_getD, ite_yes, ht, hlt, nf, tf, n1, n2, n3, n4, n5, m1, m2, m3, m4, m5, k1, k2]
                  first | refine AAt.of (by first | exact SubH.refl | exact SubH.app | exact SubH.both (by simp [subL])) ?_ | (refine ⟨?_, AAt.of (by first | exact SubH.refl | exact SubH.app | exact SubH.both (by simp [subL])) ?_⟩; · omega)
                  refine AAny.one 2 11 (by kernel_rfl) (by kernel_rfl) (by kernel_rfl) ?_
                  simp -dsimp -implicitDefEqProofs (disch := omega) [go_sem, -List.getD_eq_getElem?_getD, ite_yes, ht, hlt, nf, tf, n1, n2, n3, n4, n5, m1, m2, m3, m4, m5, k1, k2]
                  first | refine AAt.of (by first | exact SubH.refl | exact SubH.app | exact SubH.both (by simp [subL])) ?_ | (refine ⟨?_, AAt.of (by first | exact SubH.refl | exact SubH.app | exact SubH.both (by simp [subL])) ?_⟩; · omega)
                  refine AAny.one 1 15 (by kernel_rfl) (by kernel_rfl) (by kernel_rfl) ?_
                  simp -dsimp -implicitDefEqProofs (disch := omega) [go_sem, -List.getD_eq_getElem?_getD, ite_yes, ht, hlt, nf, tf, n1, n2, n3, n4, n5, m1, m2, m3, m4, m5, k1, k2]
                  first | refine AAt.of (by first | exact SubH.refl | exact SubH.app | exact SubH.both (by simp [subL])) ?_ | (refine ⟨?_, AAt.of (by first | exact SubH.refl | exact SubH.app | exact SubH.both (by simp [subL])) ?_⟩; · omega)
                  refine AAny.takes (fuel := 0) (by kernel_rfl) (by kernel_rfl) [16] (by kernel_rfl) (by kernel_rfl) ?_
                  simp -dsimp -implicitDefEqProofs (disch := omega) [go_sem, -List.getD_eq_getElem?_getD, ite_yes, ht, hlt, nf, tf, n1, n2, n3, n4, n5, m1, m2, m3, m4, m5, k1, k2]
                  refine AAny.done (by kernel_rfl) ?_
                  simp -dsimp -implicitDefEqProofs (disch := omega) [go_sem, -List.getD_eq_getElem?_getD, ite_yes, ht, hlt, nf, tf, n1, n2, n3, n4, n5, m1, m2, m3, m4, m5, k1, k2]
                  refine ⟨weakS_mk [some 6, some 1] rfl ?_ (by simp -dsimp -implicitDefEqProofs (disch := omega) [go_sem, -List.getD_eq_getElem?_getD, ite_yes, ht, e4])⟩
                  simp -dsimp -implicitDefEqProofs (disch := omega) [go_sem, -List.getD_eq_getElem?_getD, ite_yes, ht, hlt, nf, tf, n1, n2, n3, n4, n5, m1, m2, m3, m4, m5, k1, k2]
                  exact ⟨.inl ⟨hN, hN ▸ nmE_flat N'⟩, .inl ⟨rfl, nmE_flat _⟩⟩
              · simp -dsimp -implicitDefEqProofs (disch := omega) [go_sem, -List.getD_eq_getElem?_getD, ite_yes, ht, hlt, nf, tf, n1, n2, n3, n4, n5, m1, m2, m3, m4, m5, k1, k2]
                first | refine AAt.of (by first | exact SubH.refl | exact SubH.app | exact SubH.both (by simp [subL])) ?_ | (refine ⟨?_, AAt.of (by first | exact SubH.refl | exact SubH.app | exact SubH.both (by simp [subL])) ?_⟩; · omega)
                refine AAny.one 4 0 (by kernel_rfl) (by kernel_rfl) (by kernel_rfl) ?_
                simp -dsimp -implicitDefEqProofs (disch := omega) [go_sem, -List.getD_eq_getElem?_getD, ite_yes, ht, hlt, nf, tf, n1, n2, n3, n4, n5, m1, m2, m3, m4, m5, k1, k2]
                first | refine AAt.of (by first | exact SubH.refl | exact SubH.app | exact SubH.both (by simp [subL])) ?_ | (refine ⟨?_, AAt.of (by first | exact SubH.refl | exact SubH.app | exact SubH.both (by simp [subL])) ?_⟩; · omega)
                refine AAny.one 3 4 (by kernel_rfl) (by kernel_rfl) (by kernel_rfl) ?_
                simp -dsimp -implicitDefEqProofs (disch := omega) [go_sem, -List.getD_eq_getElem?_getD, ite_yes, ht, hlt, nf, tf, n1, n2, n3, n4, n5, m1, m2, m3, m4, m5, k1, k2]
                first | refine AAt.of (by first | exact SubH.refl | exact SubH.app | exact SubH.both (by simp [subL])) ?_ | (refine ⟨?_, AAt.of (by first | exact SubH.refl | exact SubH.app | exact SubH.both (by simp [subL])) ?_⟩; · omega)
                refine AAny.one 2 11 (by kernel_rfl) (by kernel_rfl) (by kernel_rfl) ?_
                simp -dsimp -implicitDefEqProofs (disch := omega) [go_sem, -List.getD_eq_getElem?_getD, ite_yes, ht, hlt, nf, tf, n1, n2, n3, n4, n5, m1, m2, m3, m4, m5, k1, k2]
                first | refine AAt.of (by first | exact SubH.refl | exact SubH.app | exact SubH.both (by simp [subL])) ?_ | (refine ⟨?_, AAt.of (by first | exact SubH.refl | exact SubH.app | exact SubH.both (by simp [subL])) ?_⟩; · omega)
                refine AAny.one 1 15 (by kernel_rfl) (by kernel_rfl) (by kernel_rfl) ?_
                simp -dsimp -implicitDefEqProofs (disch := omega) [go_sem, -List.getD_eq_getElem?_getD, ite_yes, ht, hlt, nf, tf, n1, n2, n3, n4, n5, m1, m2, m3, m4, m5, k1, k2]
                first | refine AAt.of (by first | exact SubH.refl | exact SubH.app | exact SubH.both (by simp [subL])) ?_ | (refine ⟨?_, AAt.of (by first | exact SubH.refl | exact SubH.app | exact SubH.both (by simp [subL])) ?_⟩; · omega)
                refine AAny.takes (fuel := 0) (by kernel_rfl) (by kernel_rfl) [16] (by kernel_rfl) (by kernel_rfl) ?_
                simp -dsimp -implicitDefEqProofs (disch := omega) [go_sem, -List.getD_eq_getElem?_getD, ite_yes, ht, hlt, nf, tf, n1, n2, n3, n4, n5, m1, m2, m3, m4, m5, k1, k2]
                refine AAny.done (by kernel_rfl) ?_
                simp -dsimp -implicitDefEqProofs (disch := omega) [go_sem, -List.getD_eq_getElem?_getD, ite_yes, ht, hlt, nf, tf, n1, n2, n3, n4, n5, m1, m2, m3, m4, m5, k1, k2]
                refine ⟨weakS_mk [some 6, some 1] rfl ?_ (by simp -dsimp -implicitDefEqProofs (disch := omega) [go_sem, -List.getD_eq_getElem?_getD, ite_yes, ht, e4])⟩
                simp -dsimp -implicitDefEqProofs (disch := omega) [go_sem, -List.getD_eq_getElem?_getD, ite_yes, ht, hlt, nf, tf, n1, n2, n3, n4, n5, m1, m2, m3, m4, m5, k1, k2]
                exact ⟨.inl ⟨hN, hN ▸ nmE_flat N'⟩, .inl ⟨rfl, nmE_flat _⟩⟩
            have nf' : (N'.flatMap nmE).length = n + 1 := by rw [nmE_length, nl']; omega
            simp -dsimp -implicitDefEqProofs (disch := omega) [go_sem, -List.getD_eq_getElem?_getD, ite_yes, ht, hlt, nf, tf, n1, n2, n3, n4, n5, m1, m2, m3, m4, m5, k1, k2, nf']
            refine ADraw.any (H ++ [some ⟨N'.flatMap nmE, true, 3, 1⟩, some ⟨T.flatMap nmE, true, 3, 1⟩]) (by kernel_rfl) (by first | exact SubH.refl | exact SubH.app | exact SubH.both (by simp [subL])) ?_
            refine AAny.takes (fuel := 6) (by kernel_rfl) (by kernel_rfl) [1, 2, 3, 5, 6, 7, 8, 9, 12, 13, 14] (by kernel_rfl) (by kernel_rfl) ?_
            simp -dsimp -implicitDefEqProofs (disch := omega) [go_sem, -List.getD_eq_getElem?_getD, ite_yes, ht, hlt, nf, tf, n1, n2, n3, n4, n5, m1, m2, m3, m4, m5, k1, k2, nf']
            refine AAny.two 5 0 10 (by kernel_rfl) (by kernel_rfl) (by kernel_rfl) ?_ ?_
            · simp -dsimp -implicitDefEqProofs (disch := omega) [go_sem, -List.getD_eq_getElem?_getD, ite_yes, ht, hlt, nf, tf, n1, n2, n3, n4, n5, m1, m2, m3, m4, m5, k1, k2, nf']
              first | refine AAt.of (by first | exact SubH.refl | exact SubH.app | exact SubH.both (by simp [subL])) ?_ | (refine ⟨?_, AAt.of (by first | exact SubH.refl | exact SubH.app | exact SubH.both (by simp [subL])) ?_⟩; · omega)
              refine AAny.two 4 4 10 (by kernel_rfl) (by kernel_rfl) (by kernel_rfl) ?_ ?_
              · simp -dsimp -implicitDefEqProofs (disch := omega) [go_sem, -List.getD_eq_getElem?_getD, ite_yes, ht, hlt, nf, tf, n1, n2, n3, n4, n5, m1, m2, m3, m4, m5, k1, k2, nf']
                first | refine AAt.of (by first | exact SubH.refl | exact SubH.app | exact SubH.both (by simp [subL])) ?_ | (refine ⟨?_, AAt.of (by first | exact SubH.refl | exact SubH.app | exact SubH.both (by simp [subL])) ?_⟩; · omega)
                refine AAny.one 3 10 (by kernel_rfl) (by kernel_rfl) (by kernel_rfl) ?_
                simp -dsimp -implicitDefEqProofs (disch := omega) [go_sem, -List.getD_eq_getElem?_getD, ite_yes, ht, hlt, nf, tf, n1, n2, n3, n4, n5, m1, m2, m3, m4, m5, k1, k2, nf']
                first | refine AAt.of (by first | exact SubH.refl | exact SubH.app | exact SubH.both (by simp [subL])) ?_ | (refine ⟨?_, AAt.of (by first | exact SubH.refl | exact SubH.app | exact SubH.both (by simp [subL])) ?_⟩; · omega)
                refine AAny.one 2 11 (by kernel_rfl) (by kernel_rfl) (by kernel_rfl) ?_
                simp -dsimp -implicitDefEqProofs (disch := omega) [go_sem, -List.getD_eq_getElem?_getD, ite_yes, ht, hlt, nf, tf, n1, n2, n3, n4, n5, m1, m2, m3, m4, m5, k1, k2, nf']
                first | refine AAt.of (by first | exact SubH.refl | exact SubH.app | exact SubH.both (by simp [subL])) ?_ | (refine ⟨?_, AAt.of (by first | exact SubH.refl | exact SubH.app | exact SubH.both (by simp [subL])) ?_⟩; · omega)
                refine AAny.one 1 15 (by kernel_rfl) (by kernel_rfl) (by kernel_rfl) ?_
                simp -dsimp -implicitDefEqProofs (disch := omega) [go_sem, -List.getD_eq_getElem?_getD, ite_yes, ht, hlt, nf, tf, n1, n2, n3, n4, n5, m1, m2, m3, m4, m5, k1, k2, nf']
                first | refine AAt.of (by first | exact SubH.refl | exact SubH.app | exact SubH.both (by simp [subL])) ?_ | (refine ⟨?_, AAt.of (by first | exact SubH.refl | exact SubH.app | exact SubH.both (by simp [subL])) ?_⟩; · omega)
                refine AAny.takes (fuel := 0) (by kernel_rfl) (by kernel_rfl) [16] (by kernel_rfl) (by kernel_rfl) ?_
                simp -dsimp -implicitDefEqProofs (disch := omega) [go_sem, -List.getD_eq_getElem?_getD, ite_yes, ht, hlt, nf, tf, n1, n2, n3, n4, n5, m1, m2, m3, m4, m5, k1, k2, nf']
                refine AAny.done (by kernel_rfl) ?_
                simp -dsimp -implicitDefEqProofs (disch := omega) [go_sem, -List.getD_eq_getElem?_getD, ite_yes, ht, hlt, nf, tf, n1, n2, n3, n4, n5, m1, m2, m3, m4, m5, k1, k2, nf']
                refine LoopEnd.of (i + 1) (by omega) (by omega) (weakS_mk [some 0, some 6] rfl ?_ (by simp -dsimp -implicitDefEqProofs (disch := omega) [go_sem, -List.getD_eq_getElem?_getD, ite_yes, ht, e4, unl]))
                simp -dsimp -implicitDefEqProofs (disch := omega) [go_sem, -List.getD_eq_getElem?_getD, ite_yes, ht, hlt, nf, tf, n1, n2, n3, n4, n5, m1, m2, m3, m4, m5, k1, k2, us, hN'e, hT'e]
                exact ⟨.inl ⟨rfl, nmE_flat _⟩, .inl ⟨hT, hT ▸ nmE_flat T'⟩⟩
              · simp -dsimp -implicitDefEqProofs (disch := omega) [go_sem, -List.getD_eq_getElem?_getD, ite_yes, ht, hlt, nf, tf, n1, n2, n3, n4, n5, m1, m2, m3, m4, m5, k1, k2, nf']
                first | refine AAt.of (by first | exact SubH.refl | exact SubH.app | exact SubH.both (by simp [subL])) ?_ | (refine ⟨?_, AAt.of (by first | exact SubH.refl | exact SubH.app | exact SubH.both (by simp [subL])) ?_⟩; · omega)
                refine AAny.one 3 4 (by kernel_rfl) (by kernel_rfl) (by kernel_rfl) ?_
                simp -dsimp -implicitDefEqProofs (disch := omega) [go_sem, -List.getD_eq_getElem?_getD, ite_yes, ht, hlt, nf, tf, n1, n2, n3, n4, n5, m1, m2, m3, m4, m5, k1, k2, nf']
                first | refine AAt.of (by first | exact SubH.refl | exact SubH.app | exact SubH.both (by simp [subL])) ?_ | (refine ⟨?_, AAt.of (by first | exact SubH.refl | exact SubH.app | exact SubH.both (by simp [subL])) ?_⟩; · omega)
                refine AAny.one 2 11 (by kernel_rfl) (by kernel_rfl) (by kernel_rfl) ?_
                simp -dsimp -implicitDefEqProofs (disch := omega) [go_sem, -List.getD_eq_getElem?_getD, ite_yes, ht, hlt, nf, tf, n1, n2, n3, n4, n5, m1, m2, m3, m4, m5, k1, k2, nf']
                first | refine AAt.of (by first | exact SubH.refl | exact SubH.app | exact SubH.both (by simp [subL])) ?_ | (refine ⟨?_, AAt.of (by first | exact SubH.refl | exact SubH.app | exact SubH.both (by simp [subL])) ?_⟩; · omega)
                refine AAny.one 1 15 (by kernel_rfl) (by kernel_rfl) (by kernel_rfl) ?_
                simp -dsimp -implicitDefEqProofs (disch := omega) [go_sem, -List.getD_eq_getElem?_getD, ite_yes, ht, hlt, nf, tf, n1, n2, n3, n4, n5, m1, m2, m3, m4, m5, k1, k2, nf']
                first | refine AAt.of (by first | exact SubH.refl | exact SubH.app | exact SubH.both (by simp [subL])) ?_ | (refine ⟨?_, AAt.of (by first | exact SubH.refl | exact SubH.app | exact SubH.both (by simp [subL])) ?_⟩; · omega)
                refine AAny.takes (fuel := 0) (by kernel_rfl) (by kernel_rfl) [16] (by kernel_rfl) (by kernel_rfl) ?_
                simp -dsimp -implicitDefEqProofs (disch := omega) [go_sem, -List.getD_eq_getElem?_getD, ite_yes, ht, hlt, nf, tf, n1, n2, n3, n4, n5, m1, m2, m3, m4, m5, k1, k2, nf']
                refine AAny.done (by kernel_rfl) ?_
                simp -dsimp -implicitDefEqProofs (disch := omega) [go_sem, -List.getD_eq_getElem?_getD, ite_yes, ht, hlt, nf, tf, n1, n2, n3, n4, n5, m1, m2, m3, m4, m5, k1, k2, nf']
                refine LoopEnd.of (i + 1) (by omega) (by omega) (weakS_mk [some 0, some 6] rfl ?_ (by simp -dsimp -implicitDefEqProofs (disch := omega) [go_sem, -List.getD_eq_getElem?_getD, ite_yes, ht, e4, unl]))
                simp -dsimp -implicitDefEqProofs (disch := omega) [go_sem, -List.getD_eq_getElem?_getD, ite_yes, ht, hlt, nf, tf, n1, n2, n3, n4, n5, m1, m2, m3, m4, m5, k1, k2, us, hN'e, hT'e]
                exact ⟨.inl ⟨rfl, nmE_flat _⟩, .inl ⟨hT, hT ▸ nmE_flat T'⟩⟩
            · simp -dsimp -implicitDefEqProofs (disch := omega) [go_sem, -List.getD_eq_getElem?_getD, ite_yes, ht, hlt, nf, tf, n1, n2, n3, n4, n5, m1, m2, m3, m4, m5, k1, k2, nf']
              first | refine AAt.of (by first | exact SubH.refl | exact SubH.app | exact SubH.both (by simp [subL])) ?_ | (refine ⟨?_, AAt.of (by first | exact SubH.refl | exact SubH.app | exact SubH.both (by simp [subL])) ?_⟩; · omega)
              refine AAny.one 4 0 (by kernel_rfl) (by kernel_rfl) (by kernel_rfl) ?_
              simp -dsimp -implicitDefEqProofs (disch := omega) [go_sem, -List.getD_eq_getElem?_getD, ite_yes, ht, hlt, nf, tf, n1, n2, n3, n4, n5, m1, m2, m3, m4, m5, k1, k2, nf']
              first | refine AAt.of (by first | exact SubH.refl | exact SubH.app | exact SubH.both (by simp [subL])) ?_ | (refine ⟨?_, AAt.of (by first | exact SubH.refl | exact SubH.app | exact SubH.both (by simp [subL])) ?_⟩; · omega)
              refine AAny.one 3 4 (by kernel_rfl) (by kernel_rfl) (by kernel_rfl) ?_
              simp -dsimp -implicitDefEqProofs (disch := omega) [go_sem, -List.getD_eq_getElem?_getD, ite_yes, ht, hlt, nf, tf, n1, n2, n3, n4, n5, m1, m2, m3, m4, m5, k1, k2, nf']
              first | refine AAt.of (by first | exact SubH.refl | exact SubH.app | exact SubH.both (by simp [subL])) ?_ | (refine ⟨?_, AAt.of (by first | exact SubH.refl | exact SubH.app | exact SubH.both (by simp [subL])) ?_⟩; · omega)
              refine AAny.one 2 11 (by kernel_rfl) (by kernel_rfl) (by kernel_rfl) ?_
              simp -dsimp -implicitDefEqProofs (disch := omega) [go_sem, -List.getD_eq_getElem?_getD, ite_yes, ht, hlt, nf, tf, n1, n2, n3, n4, n5, m1, m2, m3, m4, m5, k1, k2, nf']
              first | refine AAt.of (by first | exact SubH.refl | exact SubH.app | exact SubH.both (by simp [subL])) ?_ | (refine ⟨?_, AAt.of (by first | exact SubH.refl | exact SubH.app | exact SubH.both (by simp [subL])) ?_⟩; · omega)
              refine AAny.one 1 15 (by kernel_rfl) (by kernel_rfl) (by kernel_rfl) ?_
              simp -dsimp -implicitDefEqProofs (disch := omega) [go_sem, -List.getD_eq_getElem?_getD, ite_yes, ht, hlt, nf, tf, n1, n2, n3, n4, n5, m1, m2, m3, m4, m5, k1, k2, nf']
              first | refine AAt.of (by first | exact SubH.refl | exact SubH.app | exact SubH.both (by simp [subL])) ?_ | (refine ⟨?_, AAt.of (by first | exact SubH.refl | exact SubH.app | exact SubH.both (by simp [subL])) ?_⟩; · omega)
              refine AAny.takes (fuel := 0) (by kernel_rfl) (by kernel_rfl) [16] (by kernel_rfl) (by kernel_rfl) ?_
              simp -dsimp -implicitDefEqProofs (disch := omega) [go_sem, -List.getD_eq_getElem?_getD, ite_yes, ht, hlt, nf, tf, n1, n2, n3, n4, n5, m1, m2, m3, m4, m5, k1, k2, nf']
              refine AAny.done (by kernel_rfl) ?_
              simp -dsimp -implicitDefEqProofs (disch := omega) [go_sem, -List.getD_eq_getElem?_getD, ite_yes, ht, hlt, nf, tf, n1, n2, n3, n4, n5, m1, m2, m3, m4, m5, k1, k2, nf']
              refine LoopEnd.of (i + 1) (by omega) (by omega) (weakS_mk [some 0, some 6] rfl ?_ (by simp -dsimp -implicitDefEqProofs (disch := omega) [go_sem, -List.getD_eq_getElem?_getD, ite_yes, ht, e4, unl]))
              simp -dsimp -implicitDefEqProofs (disch := omega) [go_sem, -List.getD_eq_getElem?_getD, ite_yes, ht, hlt, nf, tf, n1, n2, n3, n4, n5, m1, m2, m3, m4, m5, k1, k2, us, hN'e, hT'e]
              exact ⟨.inl ⟨rfl, nmE_flat _⟩, .inl ⟨hT, hT ▸ nmE_flat T'⟩⟩
    · simp -dsimp -implicitDefEqProofs (disch := omega) [go_sem, -List.getD_eq_getElem?_getD, ite_yes, hlt]
      obtain rfl : i = l.length := by omega
      rw [show (unTo l l.length).length = (unN l).length by unfold unN; rw [List.length_map, ol]]
      refine fin_list [some 0] rfl ?_ (by simp -dsimp -implicitDefEqProofs (disch := omega) [go_sem, -List.getD_eq_getElem?_getD, ite_yes, ht])
      simp -dsimp -implicitDefEqProofs (disch := omega) [go_sem, -List.getD_eq_getElem?_getD, ite_yes]
      exact .inl ⟨rfl, nmE_flat _⟩
end Go.Proofs.Ytokafhinmakdnaa
