/- TotalUse: the row. -/
import Derived.Test.YtnocfipolefnaaaRows
import Derived.Test.YtnocfipolefnaaaTotalUse
import Derived.Test.YtnocfipolefnaaaOpenRds
namespace Go.Proofs.Ytnocfipolefnaaa
open Go.Am Go.RowKit Go.ChangeShapes Go.WideShapes Go.ChangeAt
set_option linter.unusedVariables false
set_option maxRecDepth 100000 in
theorem totalUse_lifted (os : Os) (started : os.Started) (H : Type) (enc : TypeId × Value → H) :
    ReturnsInHanded {} Try.checked os 8 .any (Rows.fnExactTotalUseSpec.pre6 enc Try.prog Try.f8 Rows.fnExactTotalUseRow.domain false) (Rows.fnExactTotalUseSpec.post enc Try.prog Try.f8 false true false false) := by
  refine returnsInHanded_of_change (C := Try.checked) own_ started (by kernel_rfl) Try.func8
    (ChangeSpec.witness6 (enc := enc) (C := Try.checked) false ⟨#[], #[.slice none 0 0], []⟩ 8 (by kernel_rfl) (by kernel_rfl) (by kernel_rfl) (by kernel_rfl)) ?_
  intro W base args ds gs before hval0 hW hcnd _
  have hval : ∀ (j : Nat) t v, Try.f8.params[j]? = some t → args[j]? = some v → Value.okWide Try.prog W .any base t v := hval0
  have hW' := hW
  obtain ⟨p, q, hA0, hV, rfl, hfz, hnd⟩ := hW
  have hA : DataW.TrodAll enc Try.prog W 0 (fun _ => true) true Try.f8.params.toList args.toList ds p := hA0
  rw [Try.params8] at hA hval
  obtain ⟨v0, vs0, d0, ds0, p0, q0, hargs, rfl, rfl, h0, r0⟩ := trodAll_cons hA
  obtain ⟨rfl, rfl, rfl⟩ := trodAll_nil r0
  obtain rfl : args = #[v0] := by cases args; simp_all
  obtain ⟨l, ρ, H1, hl, hh, hno, _, _, hS, _, hsv⟩ := arg_slice (f := rdE) (s := 2) (fun _ => rfl) (by omega) (fun _ => rfl) (HR.none W) noOwn_nil (open_rds (hval 0 _ v0 rfl rfl) h0)
  refine ((lawTotalUse_A l hl 0 H1 0 hS).calls hh hno (args := #[v0]) ⟨hsv, trivial⟩).mono ?_
  rintro e W' ⟨cv, ρ', rfl, hcv, _, hbe⟩
  obtain rfl : cv = .bool true := SV_bool hcv
  exact ⟨_, rfl, post_true laidOut_ (by kernel_rfl) hW' rfl rfl (by kernel_rfl) Try.underlying4 hbe⟩
theorem totalUse : Rows.FnExactTotalUseSaid :=
  OpenClaim.holds_of_wide 8 Try.f8 rfl rfl rfl rfl rfl rfl rfl ⟨rfl, rfl, rfl, rfl, rfl⟩ rfl rfl rfl rfl rfl (by kernel_rfl) Try.func8 (by kernel_rfl)
    (of_decide_eq_true (by kernel_rfl)) (by unfold Func.isWrapper; first | (rw [if_pos (by decide +kernel)]; kernel_rfl) | (rw [if_neg (by decide +kernel)]; exact ⟨rfl, rfl⟩))
    (fun os started H enc _ => totalUse_lifted os started H enc)
#print axioms totalUse
end Go.Proofs.Ytnocfipolefnaaa
