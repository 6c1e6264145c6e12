/- Arguments that are lists of Int. -/
import Derived.Test.YtamkdgjagjpmlaaRecNm
import Derived.Test.YtamkdgjagjpmlaaOwn
namespace Go.Proofs.Ytamkdgjagjpmlaa
open Go.Am Go.RowKit Go.ChangeShapes Go.WideShapes Go.Deep
set_option linter.unusedVariables false
set_option maxRecDepth 100000
theorem open_Nm {H : Type} {enc : TypeId × Value → H} {W : World} {v : Value} {d : DataW H} {ps : List MemPlace} {b0 : Nat} (hv : Value.okWide Try.prog W .any b0 26 v) (h : DataW.Trod enc Try.prog W 0 (fun _ => true) true 26 v d ps) :
    v = .slice none 0 0 ∨ ∃ (a : Addr) (len cap : Nat), v = .slice (some a) len cap ∧ len ≤ cap ∧ cap ≤ maxLen ∧ ∀ i, i < cap → ∃ r : Nm, ∀ j c, (nmE r)[j]? = some c → W.cell? (a.add (i * 1 + j)) = some c := by
  obtain ⟨fuel, hf⟩ := h
  obtain ⟨a0, len0, cap0, rfl⟩ := okWide_slice Try.underlying26 hv
  have hf : DataW.trod enc Try.prog W 0 (fun _ => true) true fuel 26 [.slice a0 len0 cap0] = some (d, ps) := hf
  rcases open_slice Try.underlying26 hf with ⟨h1, _⟩ | ⟨a, len, cap, m, n, D, Pl, h1, hb, h2, h3, h4, _, hi⟩
  · cases h1; exact .inl rfl
  · cases h1
    refine .inr ⟨a, _, _, rfl, h2, h3, fun i him => ?_⟩
    have him' : i < m := by rw [h4]; simpa using him
    obtain ⟨cs', hc, ht'⟩ := hi i him'
    rw [show Try.prog.cellsOf 3 = 1 by kernel_rfl] at hc
    obtain ⟨_, hcl, hat⟩ := World.cells?_some hc
    obtain ⟨v, rfl⟩ : ∃ v, cs' = [v] := List.length_eq_one_iff.1 hcl
    obtain ⟨n0, e0, _, _⟩ := DataW.trod_int Try.underlying3 ht'
    cases e0
    refine ⟨n0, fun j c hj => ?_⟩
    match j, hj with
    | 0, hj =>
      cases hj
      have := hat 0 (by omega)
      simpa [Addr.add] using this
end Go.Proofs.Ytamkdgjagjpmlaa
