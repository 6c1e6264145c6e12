/- Tariffs: values. -/
import Derived.Test.YtappbdfieccfeaaRecBk
namespace Go.Proofs.Ytappbdfieccfeaa
open Go.Am
abbrev tarV (n : Int) (tp len cp : Nat) : Value := .agg #[.int .i64 n, .slice (some ⟨tp, 0, none⟩) len cp]
end Go.Proofs.Ytappbdfieccfeaa
