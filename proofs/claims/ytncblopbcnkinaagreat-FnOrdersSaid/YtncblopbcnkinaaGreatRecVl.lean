/- Helpers of the laws on Valve. -/
import Derived.Test.YtncblopbcnkinaaGreatFacts
import Derived.Test.YtncblopbcnkinaaGreatAm14
namespace Go.Proofs.YtncblopbcnkinaaGreat
open Go.Am
set_option linter.unusedVariables false
set_option linter.unusedSimpArgs false
set_option maxRecDepth 100000

abbrev Vl := Int × Int × Int × Bool
def vlE (r : Vl) : List Value := [.int .i64 (r.1), .int .i64 (r.2.1), .int .i64 (r.2.2.1), .bool (r.2.2.2)]
theorem vlE_flat (l : List Vl) : (l.flatMap vlE).all flat = true := flatMap_flat fun _ => rfl
theorem vlE_length (l : List Vl) : (l.flatMap vlE).length = l.length * 4 := flatMap_length vlE 4 (fun _ => rfl) l
/-- the marks that a law writes into a list -/
def marksVl (k0 : Int) (n : Nat) : List Vl := (List.range n).map fun (i : Nat) => (k0 + 4 * (i : Int) + 0, k0 + 4 * (i : Int) + 1, k0 + 4 * (i : Int) + 2, decide ((k0 + 4 * (i : Int) + 3) % 3 = 0))
theorem marksVl_length (k0 : Int) (n : Nat) : (marksVl k0 n).length = n := by simp [marksVl]
theorem marksVl_getD (k0 : Int) (n : Nat) {k : Nat} (h : k < n) : (marksVl k0 n).getD k (0, 0, 0, false) = (k0 + 4 * (k : Int) + 0, k0 + 4 * (k : Int) + 1, k0 + 4 * (k : Int) + 2, decide ((k0 + 4 * (k : Int) + 3) % 3 = 0)) := by simp [marksVl, List.getD, h]
def szVl (n left : Int) : Int := if left - n < 0 then -1 else left - n
theorem szVl_len {l : List Vl} {n : Int} (h : ¬ szVl l.length n < 0) : (l.length : Int) ≤ n := by
  unfold szVl at h
  split at h <;> omega
theorem szVl_rng {n : Nat} {left : Int} (h : ¬ szVl n left < 0) (h2 : left ≤ 1048576) : 0 ≤ szVl n left ∧ szVl n left ≤ 1048576 := by
  unfold szVl at h ⊢
  split at h <;> split <;> omega
end Go.Proofs.YtncblopbcnkinaaGreat
