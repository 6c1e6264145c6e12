/- Helpers of the laws on MeterReading. -/
import Derived.Test.YtokafhinmakdnaaFacts
import Derived.Test.YtokafhinmakdnaaAm14
namespace Go.Proofs.Ytokafhinmakdnaa
open Go.Am
set_option linter.unusedVariables false
set_option linter.unusedSimpArgs false
set_option maxRecDepth 100000

abbrev Rd := Int × Int
def rdE (r : Rd) : List Value := [.int .i64 (r.1), .int .i64 (r.2)]
theorem rdE_flat (l : List Rd) : (l.flatMap rdE).all flat = true := flatMap_flat fun _ => rfl
theorem rdE_length (l : List Rd) : (l.flatMap rdE).length = l.length * 2 := flatMap_length rdE 2 (fun _ => rfl) l
/-- the marks that a law writes into a list -/
def marksRd (k0 : Int) (n : Nat) : List Rd := (List.range n).map fun (i : Nat) => (k0 + 2 * (i : Int) + 0, k0 + 2 * (i : Int) + 1)
theorem marksRd_length (k0 : Int) (n : Nat) : (marksRd k0 n).length = n := by simp [marksRd]
theorem marksRd_getD (k0 : Int) (n : Nat) {k : Nat} (h : k < n) : (marksRd k0 n).getD k (0, 0) = (k0 + 2 * (k : Int) + 0, k0 + 2 * (k : Int) + 1) := by simp [marksRd, List.getD, h]
def szRd (n left : Int) : Int := if left - n < 0 then -1 else left - n
theorem szRd_len {l : List Rd} {n : Int} (h : ¬ szRd l.length n < 0) : (l.length : Int) ≤ n := by
  unfold szRd at h
  split at h <;> omega
theorem szRd_rng {n : Nat} {left : Int} (h : ¬ szRd n left < 0) (h2 : left ≤ 1048576) : 0 ≤ szRd n left ∧ szRd n left ≤ 1048576 := by
  unfold szRd at h ⊢
  split at h <;> split <;> omega
end Go.Proofs.Ytokafhinmakdnaa
