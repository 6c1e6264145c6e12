/- AlarmHours: the plain law. -/
import Derived.Test.YtokafhinmakdnaaRules
namespace Go.Proofs.Ytokafhinmakdnaa
open Go.Am
set_option linter.unusedVariables false

/-- hours, kind, since: after the first k readings, as the reference counts -/
def hsS (r : Ar) (to : Int) (l : List Rg) : Nat → Int × Int × Int
  | 0 => (0, 0, 0)
  | k + 1 => if (l.getD k (0, 0, 0)).2.1 ≠ r.1 ∨ to < (l.getD k (0, 0, 0)).1 then hsS r to l k else
    (if (hsS r to l k).2.1 ≠ 0 then (hsS r to l k).1 + (l.getD k (0, 0, 0)).1 - (hsS r to l k).2.2 else (hsS r to l k).1, kindN r (hsS r to l k).2.1 (l.getD k (0, 0, 0)).2.2, (l.getD k (0, 0, 0)).1)
/-- the same, as the program counts -/
def hsI (r : Ar) (to : Int) (l : List Rg) : Nat → Int × Int × Int
  | 0 => (0, 0, 0)
  | k + 1 => if (l.getD k (0, 0, 0)).2.1 ≠ r.1 then hsI r to l k else
    (if (hsI r to l k).2.1 ≠ 0 then (hsI r to l k).1 + max (min (l.getD k (0, 0, 0)).1 to - (hsI r to l k).2.2) 0 else (hsI r to l k).1, kindN r (hsI r to l k).2.1 (l.getD k (0, 0, 0)).2.2, (l.getD k (0, 0, 0)).1)
def finS (s : Int × Int × Int) (to : Int) : Int := if s.2.1 ≠ 0 then s.1 + to - s.2.2 else s.1
def finI (s : Int × Int × Int) (to : Int) : Int := if s.2.1 ≠ 0 then s.1 + max (to - s.2.2) 0 else s.1
def rgR (a b : Rg) : Bool := decide (a.1 ≤ b.1)
def goodRg (l : List Rg) : Bool := asc (0, 0, 0) isRg rgR l
theorem goodRg_at {l : List Rg} (h : goodRg l = true) {i : Nat} (hi : i < l.length) : 0 ≤ (l.getD i (0, 0, 0)).1 ∧ (l.getD i (0, 0, 0)).1 ≤ 9999 := by
  have := (asc_at h i hi).1
  simp only [isRg, inB, Bool.and_eq_true, decide_eq_true_eq] at this
  exact this.1
theorem goodRg_mono {l : List Rg} (h : goodRg l = true) : ∀ (d i : Nat), i + d < l.length → (l.getD i (0, 0, 0)).1 ≤ (l.getD (i + d) (0, 0, 0)).1
  | 0, i, _ => Int.le_refl _
  | d + 1, i, hi => by
    have ih := goodRg_mono h d i (by omega)
    have := (asc_at h (i + d + 1) (by omega)).2 (by omega)
    rw [Nat.add_sub_cancel] at this
    have := of_decide_eq_true this
    rw [show i + (d + 1) = i + d + 1 by omega]
    omega
inductive HsInv (r : Ar) (to : Int) (l : List Rg) (k : Nat) : Prop
  | same (h1 : hsI r to l k = hsS r to l k) (h2 : (hsS r to l k).2.2 ≤ to) (h3 : ∀ j, k ≤ j → j < l.length → (hsS r to l k).2.2 ≤ (l.getD j (0, 0, 0)).1)
  | past (h1 : (hsI r to l k).1 = finS (hsS r to l k) to) (h2 : to < (hsI r to l k).2.2) (h3 : ∀ j, k ≤ j → j < l.length → to < (l.getD j (0, 0, 0)).1)
theorem hsInv {r : Ar} {to : Int} {l : List Rg} (hg : goodRg l = true) (h0 : 0 ≤ to) : ∀ k, k ≤ l.length → HsInv r to l k
  | 0, _ => .same rfl (by simpa [hsS] using h0) (fun j _ hj => by have := goodRg_at hg hj; simp only [hsS]; omega)
  | k + 1, hk => by
    have ih := hsInv (r := r) hg h0 k (by omega)
    have hm : ∀ j, k + 1 ≤ j → j < l.length → (l.getD k (0, 0, 0)).1 ≤ (l.getD j (0, 0, 0)).1 := fun j h1 h2 => by
      have := goodRg_mono hg (j - k) k (by omega)
      rwa [show k + (j - k) = j by omega] at this
    by_cases hn : (l.getD k (0, 0, 0)).2.1 ≠ r.1
    · have e1 : hsS r to l (k + 1) = hsS r to l k := by simp only [hsS]; rw [if_pos (.inl hn)]
      have e2 : hsI r to l (k + 1) = hsI r to l k := by simp only [hsI]; rw [if_pos hn]
      cases ih with
      | same h1 h2 h3 => exact .same (by rw [e1, e2, h1]) (by rw [e1]; exact h2) (fun j a b => by rw [e1]; exact h3 j (by omega) b)
      | past h1 h2 h3 => exact .past (by rw [e1, e2, h1]) (by rw [e2]; exact h2) (fun j a b => h3 j (by omega) b)
    · have e2 : hsI r to l (k + 1) = (if (hsI r to l k).2.1 ≠ 0 then (hsI r to l k).1 + max (min (l.getD k (0, 0, 0)).1 to - (hsI r to l k).2.2) 0 else (hsI r to l k).1, kindN r (hsI r to l k).2.1 (l.getD k (0, 0, 0)).2.2, (l.getD k (0, 0, 0)).1) := by
        simp only [hsI]; rw [if_neg hn]
      by_cases ht : to < (l.getD k (0, 0, 0)).1
      · have e1 : hsS r to l (k + 1) = hsS r to l k := by simp only [hsS]; rw [if_pos (.inr ht)]
        refine .past ?_ (by rw [e2]; exact ht) (fun j a b => by have := hm j a b; omega)
        rw [e1, e2]
        simp only
        cases ih with
        | same h1 h2 h3 =>
          rw [h1]
          unfold finS
          split <;> omega
        | past h1 h2 h3 =>
          rw [← h1]
          split <;> omega
      · have e1 : hsS r to l (k + 1) = (if (hsS r to l k).2.1 ≠ 0 then (hsS r to l k).1 + (l.getD k (0, 0, 0)).1 - (hsS r to l k).2.2 else (hsS r to l k).1, kindN r (hsS r to l k).2.1 (l.getD k (0, 0, 0)).2.2, (l.getD k (0, 0, 0)).1) := by
          simp only [hsS]; rw [if_neg (by intro h; rcases h with h | h; exact hn h; exact ht h)]
        cases ih with
        | past h1 h2 h3 => have := h3 k (by omega) (by omega); omega
        | same h1 h2 h3 =>
          have h4 := h3 k (by omega) (by omega)
          refine .same ?_ (by rw [e1]; simp only; omega) (fun j a b => by rw [e1]; exact hm j a b)
          rw [e1, e2, h1]
          congr 1
          split <;> omega
theorem hours_eq {r : Ar} {to : Int} {l : List Rg} (hg : goodRg l = true) (h0 : 0 ≤ to) : finI (hsI r to l l.length) to = finS (hsS r to l l.length) to := by
  cases hsInv (r := r) hg h0 l.length (Nat.le_refl _) with
  | same h1 h2 h3 =>
    rw [h1]
    unfold finI finS
    split <;> omega
  | past h1 h2 h3 =>
    rw [← h1]
    unfold finI
    split <;> omega
theorem hsI_bound {r : Ar} {to : Int} {l : List Rg} (hg : goodRg l = true) (h0 : 0 ≤ to) (h1 : to ≤ 9999) : ∀ k, k ≤ l.length → 0 ≤ (hsI r to l k).1 ∧ (hsI r to l k).1 ≤ 9999 * k ∧ 0 ≤ (hsI r to l k).2.2 ∧ (hsI r to l k).2.2 ≤ 9999
  | 0, _ => by simp [hsI]
  | k + 1, hk => by
    have ih := hsI_bound (r := r) hg h0 h1 k (by omega)
    have g := goodRg_at hg (show k < l.length by omega)
    simp only [hsI]
    split
    · omega
    · refine ⟨?_, ?_, g.1, g.2⟩ <;> simp only <;> split <;> omega
theorem hsS_bound {r : Ar} {to : Int} {l : List Rg} (hg : goodRg l = true) (h0 : 0 ≤ to) (h1 : to ≤ 9999) : ∀ k, k ≤ l.length → -9999 * k ≤ (hsS r to l k).1 ∧ (hsS r to l k).1 ≤ 9999 * k ∧ 0 ≤ (hsS r to l k).2.2 ∧ (hsS r to l k).2.2 ≤ 9999
  | 0, _ => by simp [hsS]
  | k + 1, hk => by
    have ih := hsS_bound (r := r) hg h0 h1 k (by omega)
    have g := goodRg_at hg (show k < l.length by omega)
    simp only [hsS]
    split
    · omega
    · refine ⟨?_, ?_, g.1, g.2⟩ <;> simp only <;> split <;> omega
end Go.Proofs.Ytokafhinmakdnaa
