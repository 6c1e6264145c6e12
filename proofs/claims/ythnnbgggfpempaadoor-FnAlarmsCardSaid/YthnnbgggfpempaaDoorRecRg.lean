/- Helpers of the laws on Reading. -/
import Derived.Test.YthnnbgggfpempaaDoorFacts
import Derived.Test.YthnnbgggfpempaaDoorAm14
namespace Go.Proofs.YthnnbgggfpempaaDoor
open Go.Am
set_option linter.unusedVariables false
set_option linter.unusedSimpArgs false
set_option maxRecDepth 100000

abbrev Rg := Int × Int × Int
def rgE (r : Rg) : List Value := [.int .i64 (r.1), .int .i64 (r.2.1), .int .i64 (r.2.2)]
theorem rgE_flat (l : List Rg) : (l.flatMap rgE).all flat = true := flatMap_flat fun _ => rfl
theorem rgE_length (l : List Rg) : (l.flatMap rgE).length = l.length * 3 := flatMap_length rgE 3 (fun _ => rfl) l
/-- the marks that a law writes into a list -/
def marksRg (k0 : Int) (n : Nat) : List Rg := (List.range n).map fun (i : Nat) => (k0 + 3 * (i : Int) + 0, k0 + 3 * (i : Int) + 1, k0 + 3 * (i : Int) + 2)
theorem marksRg_length (k0 : Int) (n : Nat) : (marksRg k0 n).length = n := by simp [marksRg]
theorem marksRg_getD (k0 : Int) (n : Nat) {k : Nat} (h : k < n) : (marksRg k0 n).getD k (0, 0, 0) = (k0 + 3 * (k : Int) + 0, k0 + 3 * (k : Int) + 1, k0 + 3 * (k : Int) + 2) := by simp [marksRg, List.getD, h]
def szRg (n left : Int) : Int := if left - n < 0 then -1 else left - n
theorem szRg_len {l : List Rg} {n : Int} (h : ¬ szRg l.length n < 0) : (l.length : Int) ≤ n := by
  unfold szRg at h
  split at h <;> omega
theorem szRg_rng {n : Nat} {left : Int} (h : ¬ szRg n left < 0) (h2 : left ≤ 1048576) : 0 ≤ szRg n left ∧ szRg n left ≤ 1048576 := by
  unfold szRg at h ⊢
  split at h <;> split <;> omega
end Go.Proofs.YthnnbgggfpempaaDoor
