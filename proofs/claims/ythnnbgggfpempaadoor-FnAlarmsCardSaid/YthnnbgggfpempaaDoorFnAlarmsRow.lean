/- FnAlarms: the row. -/
import Derived.Test.YthnnbgggfpempaaDoorRows
import Derived.Test.YthnnbgggfpempaaDoorAlM3
import Derived.Test.YthnnbgggfpempaaDoorOpenBy
import Derived.Test.YthnnbgggfpempaaDoorCut
import Derived.Test.YthnnbgggfpempaaDoorTie
import Derived.Test.YthnnbgggfpempaaDoorCards
import Derived.LaidMore
import Derived.OpenShut
import Derived.Stop.Joined
import Derived.SevenTiedAt
import Derived.ChangeMaps5
import Derived.Lib.SmallJoins
namespace Go.Proofs.YthnnbgggfpempaaDoor
open Go.Am Go.RowKit Go.ChangeShapes Go.WideShapes Go.ChangeAt Go.Joins
set_option linter.unusedVariables false
set_option maxRecDepth 100000 in
theorem fnAlarmsCard_met (os : Os) (args : Array Value) : laidMetH Tryd.prog Rows.fnAlarmsRow.laid ((World.doorLaid Tryd.prog 24 os).forCall (fun _ _ => 0) ⟨#[], args, []⟩).memory :=
  laidMetH_of_parts3 (fuel := 8) (laidMet_of_run' 8 (by kernel_rfl) (by kernel_rfl)) (by kernel_rfl) (by kernel_rfl)
set_option maxRecDepth 100000 in
theorem fnAlarmsCard_gl {W : World} (hsh : W.ShapedOpen Tryd.prog) (h : laidMetH Tryd.prog Rows.fnAlarmsRow.laid W) : GL Tryd.prog W := by
  rw [MakeChecks.laidMetH_plain _ _ _ (by kernel_rfl)] at h
  obtain ⟨ps, ⟨g0, t0, cs0, f0, p0, q0, hg0, ht0, hv0, hd0, ⟨g1, t1, cs1, f1, p1, q1, hg1, ht1, hv1, hd1, ⟨g2, t2, cs2, f2, p2, q2, hg2, ht2, hv2, hd2, _⟩, _⟩, _⟩, _, _⟩ := h
  obtain rfl := Option.some.inj ((show Tryd.prog.globalNamed tabName = some 1 by kernel_rfl).symm.trans hg2)
  obtain rfl := Option.some.inj ((show (Tryd.prog.globals[1]?).map (·.type) = some 154 by kernel_rfl).symm.trans ht2)
  refine ⟨fun k _ => ?_, fun k hk => by
    obtain rfl := Option.some.inj ((show Tryd.prog.globalNamed lenName = some 0 by kernel_rfl).symm.trans hk)
    exact someLen_ hsh⟩
  unfold Lib.TabIs
  rw [hv2, ← Lib.cells_of_tab (enc := fun _ => ()) (zs := Lib.pow10Tab) Tryd.underlying154 Tryd.underlying79 (by kernel_rfl) (by kernel_rfl) hd2]
set_option maxRecDepth 100000 in
theorem fnAlarmsCard_lifted (os : Os) (started : os.Started) (H : Type) (enc : TypeId × Value → H) :
    ReturnsInHanded {} Tryd.checked os 5 .any (fun w args => (Rows.fnAlarmsSpec.pre enc Tryd.prog Tryd.f5 [] false w args ∧ laidMetH Tryd.prog Rows.fnAlarmsRow.laid w) ∧ sizedMet enc Tryd.prog Tryd.f5 (OpenSpec.ofChange Rows.fnAlarmsSpec) false w args) (Rows.fnAlarmsSpec.post enc Tryd.prog Tryd.f5 false true false false) := by
  refine returnsInHanded_of_calls own_ started (by kernel_rfl)
    (ChangeSpec.witness_shaped (enc := enc) (C := Tryd.checked) (os := os) (X := fun w _ => laidMetH Tryd.prog Rows.fnAlarmsRow.laid w) false (World.doorLaid Tryd.prog 24 os) #[.slice none 0 0] 8 rfl (World.shaped_of_RefB (by kernel_rfl) (by kernel_rfl)) (by kernel_rfl) (by kernel_rfl) (by kernel_rfl) (fnAlarmsCard_met os _)) ?_
  intro w tape i _ hsh _ hok hpre _
  obtain ⟨_, _, _, fn', hfn', _, _, _, _, hval0⟩ := hok
  obtain rfl : fn' = Tryd.f5 := Option.some.inj (hfn'.symm.trans Tryd.func5)
  obtain ⟨⟨⟨ds, gs, before, hW0, hcnd⟩, hL0⟩, _⟩ := hpre
  have hW := DataW.Whole.of_heap (w' := w.forCall tape i) (by rfl) hW0
  have hL : laidMetH Tryd.prog Rows.fnAlarmsRow.laid (w.forCall tape i) := hL0.of_heap (by rfl)
  suffices hcalls : Calls Tryd.prog 5 i.args (w.forCall tape i) fun e W' => ∃ v, e = .returned v ∧ Rows.fnAlarmsSpec.post enc Tryd.prog Tryd.f5 false true false false (w.forCall tape i) i.args v W' by
    refine hcalls.mono ?_
    rintro e W' ⟨v, rfl, hp⟩
    exact ChangeSpec.post_blind hp
  clear hW0 hL0 hcnd hfn'
  generalize w.heap.size = base at hval0
  generalize w.forCall tape i = W at hsh hval0 hW hL ⊢
  generalize i.args = args at hval0 hW ⊢
  have hval : ∀ (j : Nat) t v, Tryd.f5.params[j]? = some t → args[j]? = some v → Value.okWide Tryd.prog W .any base t v := hval0
  have hW' := hW
  obtain ⟨p, q, hA0, hV, rfl, hfz, hnd⟩ := hW
  have hA : DataW.TrodAll enc Tryd.prog W 0 (fun _ => true) true Tryd.f5.params.toList args.toList ds p := hA0
  rw [Tryd.params5] at hA hval
  obtain ⟨v0, vs0, d0, ds0, p0, q0, hargs, rfl, rfl, h0, r0⟩ := trodAll_cons hA
  obtain ⟨rfl, rfl, rfl⟩ := trodAll_nil r0
  obtain rfl : args = #[v0] := by cases args; simp_all
  obtain ⟨l0, ρ0, H0, hl0, hh0, hno0, hle0, hlen0, hS0, hk0, hsv0⟩ := arg_slice (f := byE) (s := 1) (fun _ => rfl) (by omega) (fun _ => rfl) (HR.none W) noOwn_nil (open_By (hval 0 _ v0 rfl rfl) h0)
  refine ((lawAlarms_A (bytes_of hl0 hS0) 0).calls (fnAlarmsCard_gl hsh hL) hh0 hno0 (args := #[v0]) ⟨hsv0, trivial⟩).mono ?_
  rintro e W' ⟨cv, ρ', rfl, hcv, _, hbe⟩
  obtain rfl : cv = .bool true := SV_bool hcv
  exact ⟨_, rfl, post_true laidOut_ (by kernel_rfl) hW' rfl rfl (by kernel_rfl) Tryd.underlying4 hbe⟩
theorem fnAlarmsCard_row : Rows.FnAlarmsSaid :=
  OpenClaim.holds_of_wide 5 Tryd.f5 rfl rfl rfl rfl rfl rfl rfl ⟨rfl, rfl, rfl, rfl, rfl⟩ rfl rfl rfl rfl rfl (by kernel_rfl) Tryd.func5 (by kernel_rfl)
    (of_decide_eq_true (by kernel_rfl)) (by unfold Func.isWrapper; first | (rw [if_pos (by decide +kernel)]; kernel_rfl) | (rw [if_neg (by decide +kernel)]; exact ⟨rfl, rfl⟩))
    (fun os started H enc _ => fnAlarmsCard_lifted os started H enc)
set_option maxRecDepth 100000 in
theorem fnAlarmsCard : Rows.FnAlarmsCardSaid :=
  Claim7.holds_tied_plain_at .later [] [.data, .data, .data] true (true, "e25e87052560ed268efea6f97c11b9e395cf7786894345a47327d80a4b689664") false
    fnAlarmsCard_row (fun _ h => by cases h) (by kernel_rfl) (fun _ h => by cases h) fnAlarms_row_tie rfl ⟨rfl, rfl⟩ (by kernel_rfl) rfl
    (fun f fn hf hfn => by
      obtain rfl : f = 5 := Option.some.inj ((show Tryd.prog.funcNamed "loop.example/g00853/laws.FnAlarms" = some 5 by kernel_rfl).symm.trans hf) |>.symm
      obtain rfl : fn = Tryd.f5 := (Option.some.inj (Tryd.func5.symm.trans hfn)).symm
      exact ⟨by kernel_rfl, fun j t ht => by
        have hm : t ∈ Tryd.f5.params.toList := by simpa using Array.mem_of_getElem? ht
        have hall : (Tryd.f5.params.toList.all fun u => !Tryd.prog.wantsStandIn u) = true := by kernel_rfl
        exact (show Tryd.prog.wantsStandIn t = false by simpa using List.all_eq_true.1 hall t hm)⟩)
    (by kernel_rfl)
#print axioms fnAlarmsCard
end Go.Proofs.YthnnbgggfpempaaDoor
