/- Installments: both sides, and the law. -/
import Derived.Test.YthnnbgggfpempaaDoorFacts
import Derived.Test.YthnnbgggfpempaaDoorRecNm
import Derived.Test.YthnnbgggfpempaaDoorDays
import Derived.Test.YthnnbgggfpempaaDoorBills
namespace Go.Proofs.YthnnbgggfpempaaDoor
open Go.Am
set_option linter.unusedVariables false
set_option linter.unusedSimpArgs false
set_option maxRecDepth 100000

def instOk (cents n : Int) : Bool := inB cents 1 1000000000 && inB n 1 12 && decide (n ≤ cents)
def instAt (cents n : Int) (i : Nat) : Int := if (i : Int) < cents % n then cents / n + 1 else cents / n
def insts (cents n : Int) (k : Nat) : List Int := (List.range k).map (instAt cents n)
theorem insts_next (cents n : Int) (k : Nat) : insts cents n (k + 1) = insts cents n k ++ [instAt cents n k] := by simp [insts, List.range_succ]
theorem insts_length (cents n : Int) (k : Nat) : (insts cents n k).length = k := by simp [insts]
theorem insts_le {cents n : Int} (h : instOk cents n = true) : (insts cents n n.toNat).length ≤ 1048577 := by
  rw [insts_length]
  simp only [instOk, inB, Bool.and_eq_true, decide_eq_true_eq] at h
  omega
end Go.Proofs.YthnnbgggfpempaaDoor
