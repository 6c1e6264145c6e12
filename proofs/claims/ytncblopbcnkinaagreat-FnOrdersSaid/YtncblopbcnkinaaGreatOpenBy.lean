/- An argument that is a list of bytes. -/
import Derived.Test.YtncblopbcnkinaaGreatDrawBy
import Derived.Test.YtncblopbcnkinaaGreatOwn
namespace Go.Proofs.YtncblopbcnkinaaGreat
open Go.Am Go.RowKit Go.ChangeShapes Go.WideShapes Go.Deep
set_option linter.unusedVariables false
set_option maxRecDepth 100000
abbrev By := Fin 256
def byE (b : By) : List Value := [.int .u8 (b.val : Int)]
theorem open_By {H : Type} {enc : TypeId × Value → H} {W : World} {v : Value} {d : DataW H} {ps : List MemPlace} {b0 : Nat} (hv : Value.okWide Tryz.prog W .any b0 22 v) (h : DataW.Trod enc Tryz.prog W 0 (fun _ => true) true 22 v d ps) :
    v = .slice none 0 0 ∨ ∃ (a : Addr) (len cap : Nat), v = .slice (some a) len cap ∧ len ≤ cap ∧ cap ≤ maxLen ∧ ∀ i, i < cap → ∃ r : By, ∀ j c, (byE r)[j]? = some c → W.cell? (a.add (i * 1 + j)) = some c := by
  obtain ⟨fuel, hf⟩ := h
  obtain ⟨a0, len0, cap0, rfl⟩ := okWide_slice Tryz.underlying22 hv
  have hf : DataW.trod enc Tryz.prog W 0 (fun _ => true) true fuel 22 [.slice a0 len0 cap0] = some (d, ps) := hf
  rcases open_slice Tryz.underlying22 hf with ⟨h1, _⟩ | ⟨a, len, cap, m, n, D, Pl, h1, hb, h2, h3, h4, _, hi⟩
  · cases h1; exact .inl rfl
  · cases h1
    refine .inr ⟨a, _, _, rfl, h2, h3, fun i him => ?_⟩
    have him' : i < m := by rw [h4]; simpa using him
    obtain ⟨cs', hc, ht'⟩ := hi i him'
    rw [show Tryz.prog.cellsOf 5 = 1 by kernel_rfl] at hc
    obtain ⟨_, hcl, hat⟩ := World.cells?_some hc
    obtain ⟨v, rfl⟩ : ∃ v, cs' = [v] := List.length_eq_one_iff.1 hcl
    obtain ⟨n0, e0, _, wf⟩ := DataW.trod_int Tryz.underlying5 ht'
    cases e0
    have r : 0 ≤ n0 ∧ n0 ≤ 255 := by
      simp only [Lit.wf, Bool.and_eq_true, decide_eq_true_eq] at wf
      exact wf
    refine ⟨⟨n0.toNat, by omega⟩, fun j c hj => ?_⟩
    have e : ((n0.toNat : Nat) : Int) = n0 := by omega
    match j, hj with
    | 0, hj =>
      simp only [byE, e] at hj
      cases hj
      have := hat 0 (by omega)
      simpa [Addr.add] using this
theorem bytes_of {H : Heap} {t : Nat} {l : List By} (hl : l.length ≤ 9223372036854775807) (hS : Sl byE H t l) : Bytes H t l.length := by
  refine ⟨hS.lt, hl, fun k hk => ⟨((l.getD k 0).val : Int), by omega, by have := (l.getD k 0).isLt; omega, ?_⟩⟩
  have := hS.cells (s := 1) (fun _ => rfl) (0 : By) k hk
  rw [Nat.mul_one] at this
  exact this
end Go.Proofs.YtncblopbcnkinaaGreat
