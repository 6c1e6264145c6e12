/- Helpers of the laws on Pipe. -/
import Derived.Test.YtncblopbcnkinaaGreatFacts
import Derived.Test.YtncblopbcnkinaaGreatAm14
namespace Go.Proofs.YtncblopbcnkinaaGreat
open Go.Am
set_option linter.unusedVariables false
set_option linter.unusedSimpArgs false
set_option maxRecDepth 100000

abbrev Pp := Int × Int × Int × Int
def ppE (r : Pp) : List Value := [.int .i64 (r.1), .int .i64 (r.2.1), .int .i64 (r.2.2.1), .int .i64 (r.2.2.2)]
theorem ppE_flat (l : List Pp) : (l.flatMap ppE).all flat = true := flatMap_flat fun _ => rfl
theorem ppE_length (l : List Pp) : (l.flatMap ppE).length = l.length * 4 := flatMap_length ppE 4 (fun _ => rfl) l
/-- the marks that a law writes into a list -/
def marksPp (k0 : Int) (n : Nat) : List Pp := (List.range n).map fun (i : Nat) => (k0 + 4 * (i : Int) + 0, k0 + 4 * (i : Int) + 1, k0 + 4 * (i : Int) + 2, k0 + 4 * (i : Int) + 3)
theorem marksPp_length (k0 : Int) (n : Nat) : (marksPp k0 n).length = n := by simp [marksPp]
theorem marksPp_getD (k0 : Int) (n : Nat) {k : Nat} (h : k < n) : (marksPp k0 n).getD k (0, 0, 0, 0) = (k0 + 4 * (k : Int) + 0, k0 + 4 * (k : Int) + 1, k0 + 4 * (k : Int) + 2, k0 + 4 * (k : Int) + 3) := by simp [marksPp, List.getD, h]
def szPp (n left : Int) : Int := if left - n < 0 then -1 else left - n
theorem szPp_len {l : List Pp} {n : Int} (h : ¬ szPp l.length n < 0) : (l.length : Int) ≤ n := by
  unfold szPp at h
  split at h <;> omega
theorem szPp_rng {n : Nat} {left : Int} (h : ¬ szPp n left < 0) (h2 : left ≤ 1048576) : 0 ≤ szPp n left ∧ szPp n left ≤ 1048576 := by
  unfold szPp at h ⊢
  split at h <;> split <;> omega
end Go.Proofs.YtncblopbcnkinaaGreat
