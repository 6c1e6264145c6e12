/- Helpers of the laws on Bill. -/
import Derived.Test.YthnnbgggfpempaaDoorFacts
import Derived.Test.YthnnbgggfpempaaDoorAm14
namespace Go.Proofs.YthnnbgggfpempaaDoor
open Go.Am
set_option linter.unusedVariables false
set_option linter.unusedSimpArgs false
set_option maxRecDepth 100000

abbrev Bl := Int × Int × Int × Int
def blE (r : Bl) : List Value := [.int .i64 (r.1), .int .i64 (r.2.1), .int .i64 (r.2.2.1), .int .i64 (r.2.2.2)]
theorem blE_flat (l : List Bl) : (l.flatMap blE).all flat = true := flatMap_flat fun _ => rfl
theorem blE_length (l : List Bl) : (l.flatMap blE).length = l.length * 4 := flatMap_length blE 4 (fun _ => rfl) l
/-- the marks that a law writes into a list -/
def marksBl (k0 : Int) (n : Nat) : List Bl := (List.range n).map fun (i : Nat) => (k0 + 4 * (i : Int) + 0, k0 + 4 * (i : Int) + 1, k0 + 4 * (i : Int) + 2, k0 + 4 * (i : Int) + 3)
theorem marksBl_length (k0 : Int) (n : Nat) : (marksBl k0 n).length = n := by simp [marksBl]
theorem marksBl_getD (k0 : Int) (n : Nat) {k : Nat} (h : k < n) : (marksBl k0 n).getD k (0, 0, 0, 0) = (k0 + 4 * (k : Int) + 0, k0 + 4 * (k : Int) + 1, k0 + 4 * (k : Int) + 2, k0 + 4 * (k : Int) + 3) := by simp [marksBl, List.getD, h]
def szBl (n left : Int) : Int := if left - n < 0 then -1 else left - n
theorem szBl_len {l : List Bl} {n : Int} (h : ¬ szBl l.length n < 0) : (l.length : Int) ≤ n := by
  unfold szBl at h
  split at h <;> omega
theorem szBl_rng {n : Nat} {left : Int} (h : ¬ szBl n left < 0) (h2 : left ≤ 1048576) : 0 ≤ szBl n left ∧ szBl n left ≤ 1048576 := by
  unfold szBl at h ⊢
  split at h <;> split <;> omega
end Go.Proofs.YthnnbgggfpempaaDoor
