/- Helpers of the laws on AlarmRule. -/
import Derived.Test.YthnnbgggfpempaaDoorFacts
import Derived.Test.YthnnbgggfpempaaDoorAm14
namespace Go.Proofs.YthnnbgggfpempaaDoor
open Go.Am
set_option linter.unusedVariables false
set_option linter.unusedSimpArgs false
set_option maxRecDepth 100000

abbrev Ar := Int × Int × Int × Int
def arE (r : Ar) : List Value := [.int .i64 (r.1), .int .i64 (r.2.1), .int .i64 (r.2.2.1), .int .i64 (r.2.2.2)]
theorem arE_flat (l : List Ar) : (l.flatMap arE).all flat = true := flatMap_flat fun _ => rfl
theorem arE_length (l : List Ar) : (l.flatMap arE).length = l.length * 4 := flatMap_length arE 4 (fun _ => rfl) l
/-- the marks that a law writes into a list -/
def marksAr (k0 : Int) (n : Nat) : List Ar := (List.range n).map fun (i : Nat) => (k0 + 4 * (i : Int) + 0, k0 + 4 * (i : Int) + 1, k0 + 4 * (i : Int) + 2, k0 + 4 * (i : Int) + 3)
theorem marksAr_length (k0 : Int) (n : Nat) : (marksAr k0 n).length = n := by simp [marksAr]
theorem marksAr_getD (k0 : Int) (n : Nat) {k : Nat} (h : k < n) : (marksAr k0 n).getD k (0, 0, 0, 0) = (k0 + 4 * (k : Int) + 0, k0 + 4 * (k : Int) + 1, k0 + 4 * (k : Int) + 2, k0 + 4 * (k : Int) + 3) := by simp [marksAr, List.getD, h]
def szAr (n left : Int) : Int := if left - n < 0 then -1 else left - n
theorem szAr_len {l : List Ar} {n : Int} (h : ¬ szAr l.length n < 0) : (l.length : Int) ≤ n := by
  unfold szAr at h
  split at h <;> omega
theorem szAr_rng {n : Nat} {left : Int} (h : ¬ szAr n left < 0) (h2 : left ≤ 1048576) : 0 ≤ szAr n left ∧ szAr n left ≤ 1048576 := by
  unfold szAr at h ⊢
  split at h <;> split <;> omega
end Go.Proofs.YthnnbgggfpempaaDoor
