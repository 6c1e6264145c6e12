/- TakeReadings: the row. -/
import Derived.Test.YtokafhinmakdnaaRows
import Derived.Test.YtokafhinmakdnaaTakeRs
import Derived.Test.YtokafhinmakdnaaOpenAr
import Derived.Test.YtokafhinmakdnaaOpenAl
import Derived.Test.YtokafhinmakdnaaOpenRg
import Derived.Test.YtokafhinmakdnaaOwn
import Derived.Lib.SmallJoins
namespace Go.Proofs.Ytokafhinmakdnaa
open Go.Am Go.RowKit Go.ChangeShapes Go.WideShapes Go.ChangeAt Go.Joins
set_option linter.unusedVariables false
set_option maxRecDepth 100000 in
theorem takeReadingsRow_lifted (os : Os) (started : os.Started) (H : Type) (enc : TypeId × Value → H) :
    ReturnsInHanded {} Try.checked os 4 .any (Rows.fnExactTakeReadingsSpec.pre6 enc Try.prog Try.f4 Rows.fnExactTakeReadingsRow.domain false) (Rows.fnExactTakeReadingsSpec.post enc Try.prog Try.f4 false true false false) := by
  refine returnsInHanded_of_change (C := Try.checked) own_ started (by kernel_rfl) Try.func4
    (ChangeSpec.witness6 (enc := enc) (C := Try.checked) false ⟨#[], #[.slice none 0 0, .slice none 0 0, .slice none 0 0], []⟩ 8 (by kernel_rfl) (by kernel_rfl) (by kernel_rfl) (by kernel_rfl)) ?_
  intro W base args ds gs before hval0 hW hcnd _
  have hval : ∀ (j : Nat) t v, Try.f4.params[j]? = some t → args[j]? = some v → Value.okWide Try.prog W .any base t v := hval0
  have hW' := hW
  obtain ⟨p, q, hA0, hV, rfl, hfz, hnd⟩ := hW
  have hA : DataW.TrodAll enc Try.prog W 0 (fun _ => true) true Try.f4.params.toList args.toList ds p := hA0
  rw [Try.params4] at hA hval
  obtain ⟨v0, vs0, d0, ds0, p0, q0, hargs, rfl, rfl, h0, r0⟩ := trodAll_cons hA
  obtain ⟨v1, vs1, d1, ds1, p1, q1, rfl, rfl, rfl, h1, r1⟩ := trodAll_cons r0
  obtain ⟨v2, vs2, d2, ds2, p2, q2, rfl, rfl, rfl, h2, r2⟩ := trodAll_cons r1
  obtain ⟨rfl, rfl, rfl⟩ := trodAll_nil r2
  obtain rfl : args = #[v0, v1, v2] := by cases args; simp_all
  obtain ⟨l0, ρ0, H0, hl0, hh0, hno0, hle0, hlen0, hS0, hk0, hsv0⟩ := arg_slice (f := arE) (s := 4) (fun _ => rfl) (by omega) (fun _ => rfl) (HR.none W) noOwn_nil (open_Ar (hval 0 _ v0 rfl rfl) h0)
  obtain ⟨l1, ρ1, H1, hl1, hh1, hno1, hle1, hlen1, hS1, hk1, hsv1⟩ := arg_slice (f := alE) (s := 4) (fun _ => rfl) (by omega) (fun _ => rfl) hh0 hno0 (open_Al (hval 1 _ v1 rfl rfl) h1)
  obtain ⟨l2, ρ2, H2, hl2, hh2, hno2, hle2, hlen2, hS2, hk2, hsv2⟩ := arg_slice (f := rgE) (s := 3) (fun _ => rfl) (by omega) (fun _ => rfl) hh1 hno1 (open_Rg (hval 2 _ v2 rfl rfl) h2)
  refine ((lawTakeReadings_A l0 hl0 0 l1 hl1 0 l2 hl2 0 H2 _ (hk2 _ _ _ (hk1 _ _ _ hS0)) _ (hk2 _ _ _ hS1) _ hS2).calls (GL.none (by kernel_rfl) (by kernel_rfl)) hh2 hno2 (args := #[v0, v1, v2]) ⟨((hsv0.mono hle1).mono hle2), (hsv1.mono hle2), hsv2, trivial⟩).mono ?_
  rintro e W' ⟨cv, ρ', rfl, hcv, _, hbe⟩
  obtain rfl : cv = .bool true := SV_bool hcv
  exact ⟨_, rfl, post_true laidOut_ (by kernel_rfl) hW' rfl rfl (by kernel_rfl) Try.underlying4 hbe⟩
theorem takeReadingsRow : Rows.FnExactTakeReadingsSaid :=
  OpenClaim.holds_of_wide 4 Try.f4 rfl rfl rfl rfl rfl rfl rfl ⟨rfl, rfl, rfl, rfl, rfl⟩ rfl rfl rfl rfl rfl (by kernel_rfl) Try.func4 (by kernel_rfl)
    (of_decide_eq_true (by kernel_rfl)) (by unfold Func.isWrapper; first | (rw [if_pos (by decide +kernel)]; kernel_rfl) | (rw [if_neg (by decide +kernel)]; exact ⟨rfl, rfl⟩))
    (fun os started H enc _ => takeReadingsRow_lifted os started H enc)
#print axioms takeReadingsRow
end Go.Proofs.Ytokafhinmakdnaa
