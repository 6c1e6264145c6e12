/- BestWalk: the row. -/
import Derived.Test.YtkjgmppcgcimgaaRows
import Derived.Test.YtkjgmppcgcimgaaTour2
import Derived.Test.YtkjgmppcgcimgaaOpenNet
import Derived.Test.YtkjgmppcgcimgaaOpenTk
import Derived.Lib.SmallJoins
namespace Go.Proofs.Ytkjgmppcgcimgaa
open Go.Am Go.RowKit Go.ChangeShapes Go.WideShapes Go.ChangeAt Go.Joins
set_option linter.unusedVariables false
set_option maxRecDepth 100000 in
theorem bestWalkRow_lifted (os : Os) (started : os.Started) (H : Type) (enc : TypeId × Value → H) :
    ReturnsInHanded {} Try.checked os 5 .any (Rows.fnExactBestWalkSpec.pre6 enc Try.prog Try.f5 Rows.fnExactBestWalkRow.domain false) (Rows.fnExactBestWalkSpec.post enc Try.prog Try.f5 false true false false) := by
  refine returnsInHanded_of_change (C := Try.checked) own_ started (by kernel_rfl) Try.func5
    (ChangeSpec.witness6 (enc := enc) (C := Try.checked) false ⟨#[], #[.agg #[.int .i64 0, .slice none 0 0], .slice none 0 0, .int .i64 0], []⟩ 8 (by kernel_rfl) (by kernel_rfl) (by kernel_rfl) (by kernel_rfl)) ?_
  intro W base args ds gs before hval0 hW hcnd _
  have hval : ∀ (j : Nat) t v, Try.f5.params[j]? = some t → args[j]? = some v → Value.okWide Try.prog W .any base t v := hval0
  have hW' := hW
  obtain ⟨p, q, hA0, hV, rfl, hfz, hnd⟩ := hW
  have hA : DataW.TrodAll enc Try.prog W 0 (fun _ => true) true Try.f5.params.toList args.toList ds p := hA0
  rw [Try.params5] at hA hval
  obtain ⟨v0, vs0, d0, ds0, p0, q0, hargs, rfl, rfl, h0, r0⟩ := trodAll_cons hA
  obtain ⟨v1, vs1, d1, ds1, p1, q1, rfl, rfl, rfl, h1, r1⟩ := trodAll_cons r0
  obtain ⟨v2, vs2, d2, ds2, p2, q2, rfl, rfl, rfl, h2, r2⟩ := trodAll_cons r1
  obtain ⟨rfl, rfl, rfl⟩ := trodAll_nil r2
  obtain rfl : args = #[v0, v1, v2] := by cases args; simp_all
  obtain ⟨x0_0, x0_1, y0_0, y0_1, fu0, rfl, rfl, _, t0_0, t0_1⟩ := open_agg2 Try.underlying24 (by kernel_rfl) (by kernel_rfl) (hval 0 _ v0 rfl rfl) h0
  obtain ⟨n0, e0, _, wf0⟩ := DataW.trod_int Try.underlying3 t0_0
  cases e0
  obtain ⟨l0, ρ0, H0, hl0, hh0, hno0, hle0, hlen0, hS0, hk0, hsv0⟩ := arg_slice (f := ppE) (s := 4) (fun _ => rfl) (by omega) (fun _ => rfl) (HR.none W) noOwn_nil (open_PpT t0_1)
  obtain ⟨l1, ρ1, H1, hl1, hh1, hno1, hle1, hlen1, hS1, hk1, hsv1⟩ := arg_slice (f := tkE) (s := 3) (fun _ => rfl) (by omega) (fun _ => rfl) hh0 hno0 (open_Tk (hval 1 _ v1 rfl rfl) h1)
  obtain ⟨n2, rfl, rfl, rfl, wf2⟩ := open_int Try.underlying3 (hval 2 _ v2 rfl rfl) h2
  refine ((lawBestWalk_A n0 l0 hl0 0 l1 hl1 0 n2 H1 _ (hk1 _ _ _ hS0) _ hS1).calls hh1 hno1 (args := #[.agg #[.int .i64 n0, x0_1], v1, .int .i64 n2]) ⟨((net_sv hsv0).mono hle1), hsv1, rfl, trivial⟩).mono ?_
  rintro e W' ⟨cv, ρ', rfl, hcv, _, hbe⟩
  obtain rfl : cv = .bool true := SV_bool hcv
  exact ⟨_, rfl, post_true laidOut_ (by kernel_rfl) hW' rfl rfl (by kernel_rfl) Try.underlying4 hbe⟩
theorem bestWalkRow : Rows.FnExactBestWalkSaid :=
  OpenClaim.holds_of_wide 5 Try.f5 rfl rfl rfl rfl rfl rfl rfl ⟨rfl, rfl, rfl, rfl, rfl⟩ rfl rfl rfl rfl rfl (by kernel_rfl) Try.func5 (by kernel_rfl)
    (of_decide_eq_true (by kernel_rfl)) (by unfold Func.isWrapper; first | (rw [if_pos (by decide +kernel)]; kernel_rfl) | (rw [if_neg (by decide +kernel)]; exact ⟨rfl, rfl⟩))
    (fun os started H enc _ => bestWalkRow_lifted os started H enc)
#print axioms bestWalkRow
end Go.Proofs.Ytkjgmppcgcimgaa
