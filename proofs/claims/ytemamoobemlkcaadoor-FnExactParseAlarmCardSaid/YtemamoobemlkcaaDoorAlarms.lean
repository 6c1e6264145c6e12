/- Alarms: rules, and the kind after a reading. -/
import Derived.Test.YtemamoobemlkcaaDoorSamples
namespace Go.Proofs.YtemamoobemlkcaaDoor
open Go.Am
set_option linter.unusedVariables false
set_option linter.unusedSimpArgs false
set_option maxRecDepth 100000
set_option maxHeartbeats 1000000

/-- node, low, high, band -/
abbrev Rule := Int × Int × Int × Int
abbrev ruleV (r : Rule) : Value := .agg #[.int .i64 r.1, .int .i64 r.2.1, .int .i64 r.2.2.1, .int .i64 r.2.2.2]
def ruleOk (r : Rule) : Prop := (1 ≤ r.1 ∧ r.1 ≤ 8) ∧ 0 ≤ r.2.1 ∧ r.2.1 ≤ r.2.2.1 ∧ r.2.2.1 ≤ 100000 ∧ 0 ≤ r.2.2.2 ∧ r.2.2.2 ≤ (r.2.2.1 - r.2.1) / 2
instance ruleOk_dec (r : Rule) : Decidable (ruleOk r) := by unfold ruleOk; infer_instance
def isRl (r : Rule) : Bool := decide (ruleOk r)
/-- the kind after a reading -/
def kindN (r : Rule) (kind value : Int) : Int := if value < r.2.1 then 1 else if r.2.2.1 < value then 2 else if r.2.1 + r.2.2.2 ≤ value ∧ value ≤ r.2.2.1 - r.2.2.2 then 0 else kind
def kaOk (r : Rule) (kind value : Int) : Bool := isRl r && (inB kind 0 2 && inB value 0 100000)
def kaN (r : Rule) (kind value : Int) : Int := if kaOk r kind value = true then kindN r kind value else 0
end Go.Proofs.YtemamoobemlkcaaDoor

