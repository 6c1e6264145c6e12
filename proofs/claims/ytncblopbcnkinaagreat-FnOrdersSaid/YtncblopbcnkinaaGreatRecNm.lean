/- Helpers of the laws on Int. -/
import Derived.Test.YtncblopbcnkinaaGreatFacts
import Derived.Test.YtncblopbcnkinaaGreatAm14
namespace Go.Proofs.YtncblopbcnkinaaGreat
open Go.Am
set_option linter.unusedVariables false
set_option linter.unusedSimpArgs false
set_option maxRecDepth 100000

abbrev Nm := Int
def nmE (r : Nm) : List Value := [.int .i64 (r)]
theorem nmE_flat (l : List Nm) : (l.flatMap nmE).all flat = true := flatMap_flat fun _ => rfl
theorem nmE_length (l : List Nm) : (l.flatMap nmE).length = l.length * 1 := flatMap_length nmE 1 (fun _ => rfl) l
/-- the marks that a law writes into a list -/
def marksNm (k0 : Int) (n : Nat) : List Nm := (List.range n).map fun (i : Nat) => k0 + 1 * (i : Int) + 0
theorem marksNm_length (k0 : Int) (n : Nat) : (marksNm k0 n).length = n := by simp [marksNm]
theorem marksNm_getD (k0 : Int) (n : Nat) {k : Nat} (h : k < n) : (marksNm k0 n).getD k 0 = k0 + 1 * (k : Int) + 0 := by simp [marksNm, List.getD, h]
def szNm (n left : Int) : Int := if left - n < 0 then -1 else left - n
theorem szNm_len {l : List Nm} {n : Int} (h : ¬ szNm l.length n < 0) : (l.length : Int) ≤ n := by
  unfold szNm at h
  split at h <;> omega
theorem szNm_rng {n : Nat} {left : Int} (h : ¬ szNm n left < 0) (h2 : left ≤ 1048576) : 0 ≤ szNm n left ∧ szNm n left ≤ 1048576 := by
  unfold szNm at h ⊢
  split at h <;> split <;> omega
end Go.Proofs.YtncblopbcnkinaaGreat
