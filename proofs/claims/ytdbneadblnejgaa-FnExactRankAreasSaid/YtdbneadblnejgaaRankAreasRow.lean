/- RankAreas: the row. -/
import Derived.Test.YtdbneadblnejgaaRows
import Derived.Test.YtdbneadblnejgaaRkM3
import Derived.Lib.SmallJoins
namespace Go.Proofs.Ytdbneadblnejgaa
open Go.Am Go.RowKit Go.ChangeShapes Go.WideShapes Go.ChangeAt Go.Joins
set_option linter.unusedVariables false
set_option maxRecDepth 100000 in
theorem rankAreasRow_lifted (os : Os) (started : os.Started) (H : Type) (enc : TypeId × Value → H) :
    ReturnsInHanded {} Try.checked os 3 .any (Rows.fnExactRankAreasSpec.pre6 enc Try.prog Try.f3 Rows.fnExactRankAreasRow.domain false) (Rows.fnExactRankAreasSpec.post enc Try.prog Try.f3 false true false false) := by
  refine returnsInHanded_of_change (C := Try.checked) own_ started (by kernel_rfl) Try.func3
    (ChangeSpec.witness6 (enc := enc) (C := Try.checked) false ⟨#[], #[.slice none 0 0], []⟩ 8 (by kernel_rfl) (by kernel_rfl) (by kernel_rfl) (by kernel_rfl)) ?_
  intro W base args ds gs before hval0 hW hcnd _
  have hval : ∀ (j : Nat) t v, Try.f3.params[j]? = some t → args[j]? = some v → Value.okWide Try.prog W .any base t v := hval0
  have hW' := hW
  obtain ⟨p, q, hA0, hV, rfl, hfz, hnd⟩ := hW
  have hA : DataW.TrodAll enc Try.prog W 0 (fun _ => true) true Try.f3.params.toList args.toList ds p := hA0
  rw [Try.params3] at hA hval
  obtain ⟨v0, vs0, d0, ds0, p0, q0, hargs, rfl, rfl, h0, r0⟩ := trodAll_cons hA
  obtain ⟨rfl, rfl, rfl⟩ := trodAll_nil r0
  obtain rfl : args = #[v0] := by cases args; simp_all
  obtain ⟨l0, ρ0, H0, t0, hl0, hb0, hh0, hno0, hI0, hsv0⟩ := arg_aks (open_Ak (hval 0 _ v0 rfl rfl) h0)
  have hm0 : (l0.length : Int) ≤ 9223372036854775807 := by simp [maxLen] at hl0; omega
  have hn0 : ∀ r ∈ l0, (r.2.2.2.2.length : Int) ≤ 9223372036854775807 := fun r hr => by have := hb0 r hr; simp [maxLen] at this; omega
  refine ((lawRankAreas_A l0 hm0 hn0 0 H0 t0 hI0).calls (GL.none (by kernel_rfl) (by kernel_rfl)) hh0 hno0 (args := #[v0]) ⟨hsv0, trivial⟩).mono ?_
  rintro e W' ⟨cv, ρ', rfl, hcv, _, hbe⟩
  obtain rfl : cv = .bool true := SV_bool hcv
  exact ⟨_, rfl, post_true laidOut_ (by kernel_rfl) hW' rfl rfl (by kernel_rfl) Try.underlying4 hbe⟩
theorem rankAreasRow : Rows.FnExactRankAreasSaid :=
  OpenClaim.holds_of_wide 3 Try.f3 rfl rfl rfl rfl rfl rfl rfl ⟨rfl, rfl, rfl, rfl, rfl⟩ rfl rfl rfl rfl rfl (by kernel_rfl) Try.func3 (by kernel_rfl)
    (of_decide_eq_true (by kernel_rfl)) (by unfold Func.isWrapper; first | (rw [if_pos (by decide +kernel)]; kernel_rfl) | (rw [if_neg (by decide +kernel)]; exact ⟨rfl, rfl⟩))
    (fun os started H enc _ => rankAreasRow_lifted os started H enc)
#print axioms rankAreasRow
end Go.Proofs.Ytdbneadblnejgaa
