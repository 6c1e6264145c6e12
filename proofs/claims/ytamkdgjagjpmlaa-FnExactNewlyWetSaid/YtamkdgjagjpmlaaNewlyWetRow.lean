/- NewlyWet: the row. -/
import Derived.Test.YtamkdgjagjpmlaaRows
import Derived.Test.YtamkdgjagjpmlaaNewlyWet
import Derived.Test.YtamkdgjagjpmlaaOpenNet
import Derived.Test.YtamkdgjagjpmlaaOpenVl
import Derived.Test.YtamkdgjagjpmlaaOpenNm
import Derived.Lib.SmallJoins
namespace Go.Proofs.Ytamkdgjagjpmlaa
open Go.Am Go.RowKit Go.ChangeShapes Go.WideShapes Go.ChangeAt Go.Joins
set_option linter.unusedVariables false
set_option maxRecDepth 100000 in
theorem newlyWetRow_lifted (os : Os) (started : os.Started) (H : Type) (enc : TypeId × Value → H) :
    ReturnsInHanded {} Try.checked os 3 .any (Rows.fnExactNewlyWetSpec.pre6 enc Try.prog Try.f3 Rows.fnExactNewlyWetRow.domain false) (Rows.fnExactNewlyWetSpec.post enc Try.prog Try.f3 false true false false) := by
  refine returnsInHanded_of_change (C := Try.checked) own_ started (by kernel_rfl) Try.func3
    (ChangeSpec.witness6 (enc := enc) (C := Try.checked) false ⟨#[], #[.agg #[.int .i64 0, .slice none 0 0], .slice none 0 0, .int .i64 0, .slice none 0 0], []⟩ 8 (by kernel_rfl) (by kernel_rfl) (by kernel_rfl) (by kernel_rfl)) ?_
  intro W base args ds gs before hval0 hW hcnd _
  have hval : ∀ (j : Nat) t v, Try.f3.params[j]? = some t → args[j]? = some v → Value.okWide Try.prog W .any base t v := hval0
  have hW' := hW
  obtain ⟨p, q, hA0, hV, rfl, hfz, hnd⟩ := hW
  have hA : DataW.TrodAll enc Try.prog W 0 (fun _ => true) true Try.f3.params.toList args.toList ds p := hA0
  rw [Try.params3] at hA hval
  obtain ⟨v0, vs0, d0, ds0, p0, q0, hargs, rfl, rfl, h0, r0⟩ := trodAll_cons hA
  obtain ⟨v1, vs1, d1, ds1, p1, q1, rfl, rfl, rfl, h1, r1⟩ := trodAll_cons r0
  obtain ⟨v2, vs2, d2, ds2, p2, q2, rfl, rfl, rfl, h2, r2⟩ := trodAll_cons r1
  obtain ⟨v3, vs3, d3, ds3, p3, q3, rfl, rfl, rfl, h3, r3⟩ := trodAll_cons r2
  obtain ⟨rfl, rfl, rfl⟩ := trodAll_nil r3
  obtain rfl : args = #[v0, v1, v2, v3] := by cases args; simp_all
  obtain ⟨x0_0, x0_1, y0_0, y0_1, fu0, rfl, rfl, _, t0_0, t0_1⟩ := open_agg2 Try.underlying24 (by kernel_rfl) (by kernel_rfl) (hval 0 _ v0 rfl rfl) h0
  obtain ⟨n0, e0, _, wf0⟩ := DataW.trod_int Try.underlying3 t0_0
  cases e0
  obtain ⟨l0, ρ0, H0, hl0, hh0, hno0, hle0, hlen0, hS0, hk0, hsv0⟩ := arg_slice (f := ppE) (s := 4) (fun _ => rfl) (by omega) (fun _ => rfl) (HR.none W) noOwn_nil (open_PpT t0_1)
  obtain ⟨l1, ρ1, H1, hl1, hh1, hno1, hle1, hlen1, hS1, hk1, hsv1⟩ := arg_slice (f := vlE) (s := 4) (fun _ => rfl) (by omega) (fun _ => rfl) hh0 hno0 (open_Vl (hval 1 _ v1 rfl rfl) h1)
  obtain ⟨n2, rfl, rfl, rfl, wf2⟩ := open_int Try.underlying3 (hval 2 _ v2 rfl rfl) h2
  obtain ⟨l3, ρ3, H3, hl3, hh3, hno3, hle3, hlen3, hS3, hk3, hsv3⟩ := arg_slice (f := nmE) (s := 1) (fun _ => rfl) (by omega) (fun _ => rfl) hh1 hno1 (open_Nm (hval 3 _ v3 rfl rfl) h3)
  refine ((lawNewlyWet_A n0 l0 hl0 0 l1 hl1 0 n2 l3 hl3 0 H3 _ (hk3 _ _ _ (hk1 _ _ _ hS0)) _ (hk3 _ _ _ hS1) _ hS3).calls (GL.none (by kernel_rfl) (by kernel_rfl)) hh3 hno3 (args := #[.agg #[.int .i64 n0, x0_1], v1, .int .i64 n2, v3]) ⟨(((net_sv hsv0).mono hle1).mono hle3), (hsv1.mono hle3), rfl, hsv3, trivial⟩).mono ?_
  rintro e W' ⟨cv, ρ', rfl, hcv, _, hbe⟩
  obtain rfl : cv = .bool true := SV_bool hcv
  exact ⟨_, rfl, post_true laidOut_ (by kernel_rfl) hW' rfl rfl (by kernel_rfl) Try.underlying4 hbe⟩
theorem newlyWetRow : Rows.FnExactNewlyWetSaid :=
  OpenClaim.holds_of_wide 3 Try.f3 rfl rfl rfl rfl rfl rfl rfl ⟨rfl, rfl, rfl, rfl, rfl⟩ rfl rfl rfl rfl rfl (by kernel_rfl) Try.func3 (by kernel_rfl)
    (of_decide_eq_true (by kernel_rfl)) (by unfold Func.isWrapper; first | (rw [if_pos (by decide +kernel)]; kernel_rfl) | (rw [if_neg (by decide +kernel)]; exact ⟨rfl, rfl⟩))
    (fun os started H enc _ => newlyWetRow_lifted os started H enc)
#print axioms newlyWetRow
end Go.Proofs.Ytamkdgjagjpmlaa
