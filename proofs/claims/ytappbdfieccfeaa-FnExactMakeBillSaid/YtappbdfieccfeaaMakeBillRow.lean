/- MakeBill: the row. -/
import Derived.Test.YtappbdfieccfeaaRows
import Derived.Test.YtappbdfieccfeaaMakeBillLaw
import Derived.Test.YtappbdfieccfeaaOpenBl
import Derived.Test.YtappbdfieccfeaaOpenTar
import Derived.Lib.SmallJoins
namespace Go.Proofs.Ytappbdfieccfeaa
open Go.Am Go.RowKit Go.ChangeShapes Go.WideShapes Go.ChangeAt Go.Joins
set_option linter.unusedVariables false
set_option maxRecDepth 100000 in
theorem makeBillRow_lifted (os : Os) (started : os.Started) (H : Type) (enc : TypeId × Value → H) :
    ReturnsInHanded {} Try.checked os 4 .any (Rows.fnExactMakeBillSpec.pre6 enc Try.prog Try.f4 Rows.fnExactMakeBillRow.domain false) (Rows.fnExactMakeBillSpec.post enc Try.prog Try.f4 false true false false) := by
  refine returnsInHanded_of_change (C := Try.checked) own_ started (by kernel_rfl) Try.func4
    (ChangeSpec.witness6 (enc := enc) (C := Try.checked) false ⟨#[], #[.slice none 0 0, .agg #[.int .i64 0, .slice none 0 0], .int .i64 0, .int .i64 0], []⟩ 8 (by kernel_rfl) (by kernel_rfl) (by kernel_rfl) (by kernel_rfl)) ?_
  intro W base args ds gs before hval0 hW hcnd _
  have hval : ∀ (j : Nat) t v, Try.f4.params[j]? = some t → args[j]? = some v → Value.okWide Try.prog W .any base t v := hval0
  have hW' := hW
  obtain ⟨p, q, hA0, hV, rfl, hfz, hnd⟩ := hW
  have hA : DataW.TrodAll enc Try.prog W 0 (fun _ => true) true Try.f4.params.toList args.toList ds p := hA0
  rw [Try.params4] at hA hval
  obtain ⟨v0, vs0, d0, ds0, p0, q0, hargs, rfl, rfl, h0, r0⟩ := trodAll_cons hA
  obtain ⟨v1, vs1, d1, ds1, p1, q1, rfl, rfl, rfl, h1, r1⟩ := trodAll_cons r0
  obtain ⟨v2, vs2, d2, ds2, p2, q2, rfl, rfl, rfl, h2, r2⟩ := trodAll_cons r1
  obtain ⟨v3, vs3, d3, ds3, p3, q3, rfl, rfl, rfl, h3, r3⟩ := trodAll_cons r2
  obtain ⟨rfl, rfl, rfl⟩ := trodAll_nil r3
  obtain rfl : args = #[v0, v1, v2, v3] := by cases args; simp_all
  obtain ⟨l0, ρ0, H0, hl0, hh0, hno0, hle0, hlen0, hS0, hk0, hsv0⟩ := arg_slice (f := blE) (s := 4) (fun _ => rfl) (by omega) (fun _ => rfl) (HR.none W) noOwn_nil (open_Bl (hval 0 _ v0 rfl rfl) h0)
  obtain ⟨x1_0, x1_1, y1_0, y1_1, fu1, rfl, rfl, _, t1_0, t1_1⟩ := open_agg2 Try.underlying33 (by kernel_rfl) (by kernel_rfl) (hval 1 _ v1 rfl rfl) h1
  obtain ⟨n1, e1, _, wf1⟩ := DataW.trod_int Try.underlying3 t1_0
  cases e1
  obtain ⟨l1, ρ1, H1, hl1, hh1, hno1, hle1, hlen1, hS1, hk1, hsv1⟩ := arg_slice (f := bkE) (s := 2) (fun _ => rfl) (by omega) (fun _ => rfl) hh0 hno0 (open_BkT t1_1)
  obtain ⟨n2, rfl, rfl, rfl, wf2⟩ := open_int Try.underlying3 (hval 2 _ v2 rfl rfl) h2
  obtain ⟨n3, rfl, rfl, rfl, wf3⟩ := open_int Try.underlying3 (hval 3 _ v3 rfl rfl) h3
  refine ((lawMakeBill_A l0 hl0 0 n1 l1 hl1 0 n2 n3 H1 _ (hk1 _ _ _ hS0) _ hS1).calls hh1 hno1 (args := #[v0, .agg #[.int .i64 n1, x1_1], .int .i64 n2, .int .i64 n3]) ⟨(hsv0.mono hle1), (tar_sv hsv1), rfl, rfl, trivial⟩).mono ?_
  rintro e W' ⟨cv, ρ', rfl, hcv, _, hbe⟩
  obtain rfl : cv = .bool true := SV_bool hcv
  exact ⟨_, rfl, post_true laidOut_ (by kernel_rfl) hW' rfl rfl (by kernel_rfl) Try.underlying4 hbe⟩
theorem makeBillRow : Rows.FnExactMakeBillSaid :=
  OpenClaim.holds_of_wide 4 Try.f4 rfl rfl rfl rfl rfl rfl rfl ⟨rfl, rfl, rfl, rfl, rfl⟩ rfl rfl rfl rfl rfl (by kernel_rfl) Try.func4 (by kernel_rfl)
    (of_decide_eq_true (by kernel_rfl)) (by unfold Func.isWrapper; first | (rw [if_pos (by decide +kernel)]; kernel_rfl) | (rw [if_neg (by decide +kernel)]; exact ⟨rfl, rfl⟩))
    (fun os started H enc _ => makeBillRow_lifted os started H enc)
#print axioms makeBillRow
end Go.Proofs.Ytappbdfieccfeaa
