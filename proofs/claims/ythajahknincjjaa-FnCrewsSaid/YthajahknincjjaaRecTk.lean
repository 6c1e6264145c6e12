/- Helpers of the laws on Task. -/
import Derived.Test.YthajahknincjjaaFacts
import Derived.Test.YthajahknincjjaaAm14
namespace Go.Proofs.Ythajahknincjjaa
open Go.Am
set_option linter.unusedVariables false
set_option linter.unusedSimpArgs false
set_option maxRecDepth 100000

abbrev Tk := Int × Int × Int
def tkE (r : Tk) : List Value := [.int .i64 (r.1), .int .i64 (r.2.1), .int .i64 (r.2.2)]
theorem tkE_flat (l : List Tk) : (l.flatMap tkE).all flat = true := flatMap_flat fun _ => rfl
theorem tkE_length (l : List Tk) : (l.flatMap tkE).length = l.length * 3 := flatMap_length tkE 3 (fun _ => rfl) l
/-- the marks that a law writes into a list -/
def marksTk (k0 : Int) (n : Nat) : List Tk := (List.range n).map fun (i : Nat) => (k0 + 3 * (i : Int) + 0, k0 + 3 * (i : Int) + 1, k0 + 3 * (i : Int) + 2)
theorem marksTk_length (k0 : Int) (n : Nat) : (marksTk k0 n).length = n := by simp [marksTk]
theorem marksTk_getD (k0 : Int) (n : Nat) {k : Nat} (h : k < n) : (marksTk k0 n).getD k (0, 0, 0) = (k0 + 3 * (k : Int) + 0, k0 + 3 * (k : Int) + 1, k0 + 3 * (k : Int) + 2) := by simp [marksTk, List.getD, h]
def szTk (n left : Int) : Int := if left - n < 0 then -1 else left - n
theorem szTk_len {l : List Tk} {n : Int} (h : ¬ szTk l.length n < 0) : (l.length : Int) ≤ n := by
  unfold szTk at h
  split at h <;> omega
theorem szTk_rng {n : Nat} {left : Int} (h : ¬ szTk n left < 0) (h2 : left ≤ 1048576) : 0 ≤ szTk n left ∧ szTk n left ≤ 1048576 := by
  unfold szTk at h ⊢
  split at h <;> split <;> omega
end Go.Proofs.Ythajahknincjjaa
