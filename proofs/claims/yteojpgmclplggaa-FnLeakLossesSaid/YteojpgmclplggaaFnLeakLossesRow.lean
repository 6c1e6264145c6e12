/- FnLeakLosses: the row. -/
import Derived.Test.YteojpgmclplggaaRows
import Derived.Test.YteojpgmclplggaaLlM5
import Derived.Lib.SmallJoins
namespace Go.Proofs.Yteojpgmclplggaa
open Go.Am Go.RowKit Go.ChangeShapes Go.WideShapes Go.ChangeAt Go.Joins
set_option linter.unusedVariables false
set_option maxRecDepth 100000 in
theorem fnLeakLossesRow_lifted (os : Os) (started : os.Started) (H : Type) (enc : TypeId × Value → H) :
    ReturnsInHanded {} Try.checked os 3 .any (Rows.fnLeakLossesSpec.pre6 enc Try.prog Try.f3 Rows.fnLeakLossesRow.domain false) (Rows.fnLeakLossesSpec.post enc Try.prog Try.f3 false true false false) := by
  refine returnsInHanded_of_change (C := Try.checked) own_ started (by kernel_rfl) Try.func3
    (ChangeSpec.witness6 (enc := enc) (C := Try.checked) false ⟨#[], #[.slice none 0 0], []⟩ 8 (by kernel_rfl) (by kernel_rfl) (by kernel_rfl) (by kernel_rfl)) ?_
  intro W base args ds gs before hval0 hW hcnd _
  have hval : ∀ (j : Nat) t v, Try.f3.params[j]? = some t → args[j]? = some v → Value.okWide Try.prog W .any base t v := hval0
  have hW' := hW
  obtain ⟨p, q, hA0, hV, rfl, hfz, hnd⟩ := hW
  have hA : DataW.TrodAll enc Try.prog W 0 (fun _ => true) true Try.f3.params.toList args.toList ds p := hA0
  rw [Try.params3] at hA hval
  obtain ⟨v0, vs0, d0, ds0, p0, q0, hargs, rfl, rfl, h0, r0⟩ := trodAll_cons hA
  obtain ⟨rfl, rfl, rfl⟩ := trodAll_nil r0
  obtain rfl : args = #[v0] := by cases args; simp_all
  obtain ⟨l0, ρ0, H0, hl0, hh0, hno0, hle0, hlen0, hS0, hk0, hsv0⟩ := arg_slice (f := byE) (s := 1) (fun _ => rfl) (by omega) (fun _ => rfl) (HR.none W) noOwn_nil (open_By (hval 0 _ v0 rfl rfl) h0)
  refine ((lawLeakLosses_A (bytes_of hl0 hS0) 0).calls (GL.none (by kernel_rfl) (by kernel_rfl)) hh0 hno0 (args := #[v0]) ⟨hsv0, trivial⟩).mono ?_
  rintro e W' ⟨cv, ρ', rfl, hcv, _, hbe⟩
  obtain rfl : cv = .bool true := SV_bool hcv
  exact ⟨_, rfl, post_true laidOut_ (by kernel_rfl) hW' rfl rfl (by kernel_rfl) Try.underlying4 hbe⟩
theorem fnLeakLossesRow : Rows.FnLeakLossesSaid :=
  OpenClaim.holds_of_wide 3 Try.f3 rfl rfl rfl rfl rfl rfl rfl ⟨rfl, rfl, rfl, rfl, rfl⟩ rfl rfl rfl rfl rfl (by kernel_rfl) Try.func3 (by kernel_rfl)
    (of_decide_eq_true (by kernel_rfl)) (by unfold Func.isWrapper; first | (rw [if_pos (by decide +kernel)]; kernel_rfl) | (rw [if_neg (by decide +kernel)]; exact ⟨rfl, rfl⟩))
    (fun os started H enc _ => fnLeakLossesRow_lifted os started H enc)
#print axioms fnLeakLossesRow
end Go.Proofs.Yteojpgmclplggaa
