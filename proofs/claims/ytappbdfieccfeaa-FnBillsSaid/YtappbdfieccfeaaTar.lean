/- Tariffs: validity and costs, both sides. -/
import Derived.Test.YtappbdfieccfeaaTarV
import Derived.Test.YtappbdfieccfeaaRecNm
import Derived.Test.YtappbdfieccfeaaDays
import Derived.Test.YtappbdfieccfeaaAsc
import Derived.Test.YtappbdfieccfeaaFrac
namespace Go.Proofs.Ytappbdfieccfeaa
open Go.Am
set_option linter.unusedVariables false
set_option linter.unusedSimpArgs false
set_option maxRecDepth 100000
set_option maxHeartbeats 1000000

def isBk (b : Bk) : Bool := inB b.1 1 100000 && inB b.2 0 1000
def lowBk (b : Bk) : Bool := decide (1 ≤ b.1) && inB b.2 0 1000
def upBk (a b : Bk) : Bool := decide (a.1 < b.1)
def lastUp (l : List Bk) : Int := (l.getD (l.length - 1) (0, 0)).1
/-- valid tariffs, as the program asks -/
def goodK (fee : Int) (l : List Bk) : Bool := inB fee 0 100000 && (inB l.length 1 5 && (asc (0, 0) isBk upBk l && decide (lastUp l = 100000)))
theorem asc_low {l : List Bk} (h : asc (0, 0) lowBk upBk l = true) (h1 : lastUp l = 100000) : asc (0, 0) isBk upBk l = true := by
  have ha := asc_at h
  have mono : ∀ d i, i + d < l.length → (l.getD i (0, 0)).1 ≤ (l.getD (i + d) (0, 0)).1 := by
    intro d
    induction d with
    | zero => intro i _; exact Int.le_refl _
    | succ d ih =>
      intro i hi
      have h2 := ih i (by omega)
      have h3 := (ha (i + d + 1) (by omega)).2 (by omega)
      simp only [upBk, decide_eq_true_eq, Nat.add_sub_cancel] at h3
      rw [show i + (d + 1) = i + d + 1 by omega]
      omega
  refine asc_yes fun i hi => ⟨?_, (ha i hi).2⟩
  have h2 := (ha i hi).1
  have h3 := mono (l.length - 1 - i) i (by omega)
  rw [show i + (l.length - 1 - i) = l.length - 1 by omega] at h3
  unfold lastUp at h1
  simp only [lowBk, isBk, inB, Bool.and_eq_true, decide_eq_true_eq] at h2 ⊢
  omega
theorem asc_low_no {l : List Bk} (h : asc (0, 0) lowBk upBk l = false) : asc (0, 0) isBk upBk l = false := by
  cases h2 : asc (0, 0) isBk upBk l with
  | false => rfl
  | true =>
    have ha := asc_at h2
    have : asc (0, 0) lowBk upBk l = true := asc_yes fun i hi => ⟨by
      have := (ha i hi).1
      simp only [lowBk, isBk, inB, Bool.and_eq_true, decide_eq_true_eq] at this ⊢
      omega, (ha i hi).2⟩
    rw [this] at h; cases h
structure TarAt (fee : Int) (l : List Bk) : Prop where
  f_fee : 0 ≤ fee ∧ fee ≤ 100000
  f_len : 1 ≤ l.length ∧ l.length ≤ 5
  f_at : ∀ i, i < l.length → 1 ≤ (l.getD i (0, 0)).1 ∧ (l.getD i (0, 0)).1 ≤ 100000 ∧ 0 ≤ (l.getD i (0, 0)).2 ∧ (l.getD i (0, 0)).2 ≤ 1000
theorem TarAt.of {fee : Int} {l : List Bk} (h : goodK fee l = true) : TarAt fee l := by
  simp only [goodK, Bool.and_eq_true] at h
  obtain ⟨h1, h2, h3, _⟩ := h
  have ha := asc_at h3
  simp only [inB, Bool.and_eq_true, decide_eq_true_eq] at h1 h2
  refine ⟨h1, by omega, fun i hi => ?_⟩
  have := (ha i hi).1
  simp only [isBk, inB, Bool.and_eq_true, decide_eq_true_eq] at this
  omega
/-! ### Costs -/
def fromK (l : List Bk) : Nat → Int
  | 0 => 0
  | k + 1 => (l.getD k (0, 0)).1
def partK (l : List Bk) (v : Int) (k : Nat) : Int := max (min v (l.getD k (0, 0)).1 - fromK l k) 0 * (l.getD k (0, 0)).2
/-- the fee, and the costs in the first k blocks -/
def cutK (fee : Int) (l : List Bk) (v : Int) : Nat → List Int
  | 0 => [fee]
  | k + 1 => cutK fee l v k ++ [partK l v k]
theorem cutK_length (fee : Int) (l : List Bk) (v : Int) : ∀ k, (cutK fee l v k).length = k + 1
  | 0 => rfl
  | k + 1 => by rw [cutK, List.length_append, cutK_length fee l v k]; rfl
theorem fromK_bound {fee : Int} {l : List Bk} (h : TarAt fee l) : ∀ k, k ≤ l.length → 0 ≤ fromK l k ∧ fromK l k ≤ 100000
  | 0, _ => by simp [fromK]
  | k + 1, hk => by have := h.f_at k (by omega); rw [fromK]; omega
theorem partK_bound {fee : Int} {l : List Bk} (h : TarAt fee l) {v : Int} (hv : 0 ≤ v ∧ v ≤ 100000) {k : Nat} (hk : k < l.length) : 0 ≤ partK l v k ∧ partK l v k ≤ 100000000 := by
  have h1 := h.f_at k hk
  have h2 := fromK_bound h k (by omega)
  have a0 : 0 ≤ max (min v (l.getD k (0, 0)).1 - fromK l k) 0 := by omega
  have a1 : max (min v (l.getD k (0, 0)).1 - fromK l k) 0 ≤ 100000 := by omega
  unfold partK
  exact ⟨Int.mul_nonneg a0 h1.2.2.1, Int.le_trans (Int.mul_le_mul_of_nonneg_right a1 h1.2.2.1) (Int.le_trans (Int.mul_le_mul_of_nonneg_left h1.2.2.2 (by omega)) (by omega))⟩
theorem cutK_bound {fee : Int} {l : List Bk} (h : TarAt fee l) {v : Int} (hv : 0 ≤ v ∧ v ≤ 100000) : ∀ k, k ≤ l.length → ∀ u ∈ cutK fee l v k, 0 ≤ u ∧ u ≤ 100000000
  | 0, _, u, hu => by have := h.f_fee; simp only [cutK, List.mem_singleton] at hu; omega
  | k + 1, hk, u, hu => by
    rw [cutK] at hu
    rcases List.mem_append.1 hu with h' | h'
    · exact cutK_bound h hv k (by omega) u h'
    · rw [List.mem_singleton] at h'
      rw [h']
      exact partK_bound h hv (by omega)
def costK (fee : Int) (l : List Bk) (v : Int) : Int := (cutK fee l v l.length).sum
/-- the sum of the first k of a list -/
def sumK (l : List Int) (k : Nat) : Int := (l.take k).sum
theorem sumK_next {l : List Int} {k : Nat} (h : k < l.length) : sumK l (k + 1) = sumK l k + l.getD k 0 := by
  unfold sumK
  rw [List.take_succ_eq_append_getElem h, List.sum_append]
  simp [List.getD, h]
theorem sumK_bound {l : List Int} (h : ∀ u ∈ l, 0 ≤ u ∧ u ≤ 100000000) : ∀ k, k ≤ l.length → 0 ≤ sumK l k ∧ sumK l k ≤ 100000000 * k
  | 0, _ => by simp [sumK]
  | k + 1, hk => by
    have ih := sumK_bound h k (by omega)
    rw [sumK_next (by omega)]
    have : l.getD k 0 ∈ l := by simp [List.getD, show k < l.length by omega]
    have := h _ this
    omega
theorem sumK_end (l : List Int) : sumK l l.length = l.sum := by unfold sumK; rw [List.take_of_length_le (Nat.le_refl _)]
theorem costK_bound {fee : Int} {l : List Bk} (h : TarAt fee l) {v : Int} (hv : 0 ≤ v ∧ v ≤ 100000) : 0 ≤ costK fee l v ∧ costK fee l v ≤ 600000000 := by
  have := sumK_bound (cutK_bound h hv l.length (Nat.le_refl _)) _ (Nat.le_refl _)
  rw [sumK_end, cutK_length] at this
  have := h.f_len
  unfold costK
  omega
end Go.Proofs.Ytappbdfieccfeaa
