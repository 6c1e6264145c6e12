/- Arguments that are networks. -/
import Derived.Test.YtamkdgjagjpmlaaNet
import Derived.Test.YtamkdgjagjpmlaaOwn
namespace Go.Proofs.Ytamkdgjagjpmlaa
open Go.Am Go.RowKit Go.ChangeShapes Go.WideShapes Go.Deep
set_option linter.unusedVariables false
set_option maxRecDepth 100000
theorem open_PpT {H : Type} {enc : TypeId × Value → H} {W : World} {v : Value} {x : DataW H × List MemPlace} {fuel : Nat} (hf : DataW.trod enc Try.prog W 0 (fun _ => true) true fuel 22 [v] = some x) :
    v = .slice none 0 0 ∨ ∃ (a : Addr) (len cap : Nat), v = .slice (some a) len cap ∧ len ≤ cap ∧ cap ≤ maxLen ∧ ∀ i, i < cap → ∃ r : Pp, ∀ j c, (ppE r)[j]? = some c → W.cell? (a.add (i * 4 + j)) = some c := by
  rcases open_slice_fields Try.underlying22 Try.underlying70 (by kernel_rfl) (by kernel_rfl) hf with ⟨h1, _⟩ | ⟨a, len, cap, m, D, Pl, h1, hb, h2, h3, h4, _, hi⟩
  · cases h1; exact .inl rfl
  · cases h1
    refine .inr ⟨a, _, _, rfl, h2, h3, fun i him => ?_⟩
    have him' : i < m := by rw [h4]; simpa using him
    obtain ⟨ys, n, _, _, _, hfs⟩ := hi i him'
    obtain ⟨v0, y0, c0, _, t0⟩ := hfs 0 _ rfl
    obtain ⟨v1, y1, c1, _, t1⟩ := hfs 1 _ rfl
    obtain ⟨v2, y2, c2, _, t2⟩ := hfs 2 _ rfl
    obtain ⟨v3, y3, c3, _, t3⟩ := hfs 3 _ rfl
    obtain ⟨n0, e0, _, _⟩ := DataW.trod_int Try.underlying3 t0
    obtain ⟨n1, e1, _, _⟩ := DataW.trod_int Try.underlying3 t1
    obtain ⟨n2, e2, _, _⟩ := DataW.trod_int Try.underlying3 t2
    obtain ⟨n3, e3, _, _⟩ := DataW.trod_int Try.underlying3 t3
    cases e0; cases e1; cases e2; cases e3
    refine ⟨(n0, n1, n2, n3), fun j c hj => ?_⟩
    match j, hj with
    | 0, hj => cases hj; exact c0
    | 1, hj => cases hj; exact c1
    | 2, hj => cases hj; exact c2
    | 3, hj => cases hj; exact c3
theorem net_sv {ρ : Rho} {k : Int} {a : Option Addr} {m c : Nat} {x : Value} (h : SV1 ρ (.slice a m c) x) : SV1 ρ (.agg #[.int .i64 k, .slice a m c]) (.agg #[.int .i64 k, x]) := ⟨_, rfl, rfl, h, trivial⟩
end Go.Proofs.Ytamkdgjagjpmlaa
