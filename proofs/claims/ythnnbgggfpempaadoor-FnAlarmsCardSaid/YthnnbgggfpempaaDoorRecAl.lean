/- Helpers of the laws on Alarm. -/
import Derived.Test.YthnnbgggfpempaaDoorFacts
import Derived.Test.YthnnbgggfpempaaDoorAm14
namespace Go.Proofs.YthnnbgggfpempaaDoor
open Go.Am
set_option linter.unusedVariables false
set_option linter.unusedSimpArgs false
set_option maxRecDepth 100000

abbrev Al := Int × Int × Int × Bool
def alE (r : Al) : List Value := [.int .i64 (r.1), .int .i64 (r.2.1), .int .i64 (r.2.2.1), .bool (r.2.2.2)]
theorem alE_flat (l : List Al) : (l.flatMap alE).all flat = true := flatMap_flat fun _ => rfl
theorem alE_length (l : List Al) : (l.flatMap alE).length = l.length * 4 := flatMap_length alE 4 (fun _ => rfl) l
/-- the marks that a law writes into a list -/
def marksAl (k0 : Int) (n : Nat) : List Al := (List.range n).map fun (i : Nat) => (k0 + 4 * (i : Int) + 0, k0 + 4 * (i : Int) + 1, k0 + 4 * (i : Int) + 2, decide ((k0 + 4 * (i : Int) + 3) % 3 = 0))
theorem marksAl_length (k0 : Int) (n : Nat) : (marksAl k0 n).length = n := by simp [marksAl]
theorem marksAl_getD (k0 : Int) (n : Nat) {k : Nat} (h : k < n) : (marksAl k0 n).getD k (0, 0, 0, false) = (k0 + 4 * (k : Int) + 0, k0 + 4 * (k : Int) + 1, k0 + 4 * (k : Int) + 2, decide ((k0 + 4 * (k : Int) + 3) % 3 = 0)) := by simp [marksAl, List.getD, h]
def szAl (n left : Int) : Int := if left - n < 0 then -1 else left - n
theorem szAl_len {l : List Al} {n : Int} (h : ¬ szAl l.length n < 0) : (l.length : Int) ≤ n := by
  unfold szAl at h
  split at h <;> omega
theorem szAl_rng {n : Nat} {left : Int} (h : ¬ szAl n left < 0) (h2 : left ≤ 1048576) : 0 ≤ szAl n left ∧ szAl n left ≤ 1048576 := by
  unfold szAl at h ⊢
  split at h <;> split <;> omega
end Go.Proofs.YthnnbgggfpempaaDoor
