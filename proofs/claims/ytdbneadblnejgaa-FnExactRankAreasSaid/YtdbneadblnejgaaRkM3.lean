/- Leak5, Leak6, RankAreas, Own, OpenAk, in one text. -/
import Derived.Test.YtdbneadblnejgaaRkM2
import Derived.Test.YtdbneadblnejgaaFacts
import Derived.Test.YtdbneadblnejgaaAm12
/- RankAreas: both sides. -/
namespace Go.Proofs.Ytdbneadblnejgaa
open Go.Am
set_option linter.unusedVariables false
set_option linter.unusedSimpArgs false
set_option maxRecDepth 100000
set_option maxHeartbeats 8000000
def idsTo (R : List Ak) (k : Nat) : List Int := (R.take k).map (·.1)
theorem idsTo_next {R : List Ak} {k : Nat} (h : k < R.length) : idsTo R (k + 1) = idsTo R k ++ [(R.getD k akD).1] := by
  unfold idsTo
  rw [List.take_succ_eq_append_getElem h, List.map_append, List.getD_eq_getElem?_getD, List.getElem?_eq_getElem h]; rfl
theorem idsTo_length {R : List Ak} {k : Nat} (h : k ≤ R.length) : (idsTo R k).length = k := by unfold idsTo; rw [List.length_map, List.length_take]; omega
theorem rankB_len {R : List Ak} (h : 8 < R.length) : rankB R = false := by
  unfold rankB
  rw [decide_eq_false (p := R.length ≤ 8) (by omega), Bool.false_and]
def rankN (R : List Ak) : List Int := idsTo (sortK moreK R) R.length
theorem rankN_length (R : List Ak) : (rankN R).length = R.length := by
  have : (sortK moreK R).length = R.length := ordK_length moreK R _
  exact idsTo_length (by omega)
theorem iRank_bad (R : List Ak) (hl : R.length ≤ 1048577) (hg : rankB R = false) (c : Nat) (H : Heap) (t : Nat) (hS : AksAt H t R) :
    AFunC Try.prog 7 [.slice (some ⟨t, 0, none⟩) R.length c] H (.tuple #[.slice none 0 0, .bool false]) H := by
  refine AFunC.of_body Try.func7 (by kernel_rfl) rfl (by kernel_rfl) (by simp [Try.ntmps7]) ?_
  have ht := hS.sp.lt
  have cs := fun k hk => hS.sp.cells (s := 3) (fun _ => rfl) akD k hk
  have c0 := fun k hk => hS.sp.cell (s := 3) (fun _ => rfl) akD k 0 hk (by omega)
  simp only [akE, Nat.add_zero] at cs c0
  by_cases h8 : 8 < R.length
  · have h8i : (8 : Int) < (R.length : Int) := by omega
    simp -dsimp -implicitDefEqProofs (disch := omega) [go_sem, -List.getD_eq_getElem?_getD, ite_yes, h8, h8i]
    exact fin_flat0 rfl rfl
  have h8i : ¬ (8 : Int) < (R.length : Int) := by omega
  simp -dsimp -implicitDefEqProofs (disch := omega) [go_sem, -List.getD_eq_getElem?_getD, ite_yes, h8, h8i]
  refine ALoop.intro (ι := Nat) (fun k => k ≤ R.length ∧ rankTo R k) (fun k => [(0, .slice (some ⟨t, 0, none⟩) R.length c), (13, .slice (some ⟨t, 0, none⟩) R.length c), (14, .int .i64 R.length), (15, .int .i64 k)]) (fun _ => H) (fun k => R.length - k) 0 ⟨by omega, fun i hi => by omega⟩ ?_ ?_
  · exact weakS_same (by simp -dsimp -implicitDefEqProofs (disch := omega) [go_sem, -List.getD_eq_getElem?_getD, ite_yes, ht])
  rintro k ⟨hk, hf⟩
  by_cases hlt : k < R.length
  rotate_left
  · obtain rfl : k = R.length := by omega
    exact absurd hg (by rw [rankB, decide_eq_true hf, decide_eq_true (show R.length ≤ 8 by omega)]; simp)
  have hlti : (k : Int) < (R.length : Int) := by omega
  have k1 := cs k hlt
  obtain ⟨hn, hnl⟩ := hS.ns _ (akmem hlt)
  have hix : rankIx R k = (okAk (R.getD k akD) && (decide (k = 0) || decide ((R.getD (k - 1) akD).1 < (R.getD k akD).1))) := rfl
  have kp := fun (hk0 : 0 < k) => c0 (k - 1) (by omega)
  generalize R.getD k akD = r at *
  have A := fun L => validArea_A r.1 r.2.1 r.2.2.2.2 hnl r.2.2.2.1 (roH (H ++ L)) r.2.2.1 hn.app.ro
  have hrt := hn.lt
  simp -dsimp -implicitDefEqProofs (disch := omega) [go_sem, -List.getD_eq_getElem?_getD, ite_yes, hlt, hlti, k1, ht, hrt]
  refine ADraw.quiet (by kernel_rfl) (by kernel_rfl) (by kernel_rfl) ?_
  simp -dsimp -implicitDefEqProofs (disch := omega) [go_sem, -List.getD_eq_getElem?_getD, ite_yes, hlt, hlti, k1, ht, hrt]
  refine ACallQ.of (A _) rfl ?_
  cases hv : areaB r.1 r.2.1 r.2.2.2.2
  · simp -dsimp -implicitDefEqProofs (disch := omega) [go_sem, -List.getD_eq_getElem?_getD, ite_yes]
    exact fin_flat rfl rfl
  rcases Nat.eq_zero_or_pos k with h0 | h0
  · subst h0
    simp -dsimp -implicitDefEqProofs (disch := omega) [go_sem, -List.getD_eq_getElem?_getD, ite_yes]
    exact LoopEnd.of 1 ⟨by omega, hf.next (by rw [hix, okAk, hv]; rfl)⟩ (by omega) (weakS_drop (by simp -dsimp -implicitDefEqProofs (disch := omega) [go_sem, -List.getD_eq_getElem?_getD, ite_yes, ht]))
  have h0i : (0 : Int) < (k : Int) := by omega
  obtain ⟨j, rfl⟩ : ∃ j, k = j + 1 := ⟨k - 1, by omega⟩
  have kp := kp h0
  rw [Nat.add_sub_cancel] at kp hix
  have hj : j < R.length := by omega
  have hji : (j : Int) < (R.length : Int) := by omega
  by_cases hc : r.1 ≤ (R.getD j akD).1
  · generalize R.getD j akD = q at *
    simp -dsimp -implicitDefEqProofs (disch := omega) [go_sem, -List.getD_eq_getElem?_getD, ite_yes, hlt, hlti, h0, h0i, kp, ht, hj, hji, hc]
    exact fin_flat rfl rfl
  · have hix' : rankIx R (j + 1) = true := by rw [hix, okAk, hv, decide_eq_true (p := (R.getD j akD).1 < r.1) (by omega)]; simp
    generalize R.getD j akD = q at *
    simp -dsimp -implicitDefEqProofs (disch := omega) [go_sem, -List.getD_eq_getElem?_getD, ite_yes, hlt, hlti, h0, h0i, kp, ht, hj, hji, hc]
    exact LoopEnd.of (j + 1 + 1) ⟨by omega, hf.next hix'⟩ (by omega) (weakS_drop (by simp -dsimp -implicitDefEqProofs (disch := omega) [go_sem, -List.getD_eq_getElem?_getD, ite_yes, ht]))
theorem iRank_good (R : List Ak) (hg : rankB R = true) (c : Nat) (H : Heap) (t : Nat) (hS : AksAt H t R) :
    AFunC Try.prog 7 [.slice (some ⟨t, 0, none⟩) R.length c] H (.tuple #[.slice (some ⟨H.length, 0, none⟩) (rankN R).length 0, .bool true]) (H ++ [some ⟨(rankN R).flatMap nmE, true, 3, 1⟩]) := by
  refine AFunC.of_body Try.func7 (by kernel_rfl) rfl (by kernel_rfl) (by simp [Try.ntmps7]) ?_
  have ht := hS.sp.lt
  obtain ⟨hl8, hAr⟩ := rankB_at hg
  have hgt : ∀ k, k < R.length → rankIx R k = true := by
    have := hg
    simp only [rankB, Bool.and_eq_true, decide_eq_true_eq] at this
    exact this.2
  have cs := fun k hk => hS.sp.cells (s := 3) (fun _ => rfl) akD k hk
  have c0 := fun k hk => hS.sp.cell (s := 3) (fun _ => rfl) akD k 0 hk (by omega)
  simp only [akE, Nat.add_zero] at cs c0
  have h8 : ¬ 8 < R.length := by omega
  have h8i : ¬ (8 : Int) < (R.length : Int) := by omega
  simp -dsimp -implicitDefEqProofs (disch := omega) [go_sem, -List.getD_eq_getElem?_getD, ite_yes, h8, h8i]
  refine ALoop.intro (ι := Nat) (fun k => k ≤ R.length) (fun k => [(0, .slice (some ⟨t, 0, none⟩) R.length c), (13, .slice (some ⟨t, 0, none⟩) R.length c), (14, .int .i64 R.length), (15, .int .i64 k)]) (fun _ => H) (fun k => R.length - k) 0 (by omega) ?_ ?_
  · exact weakS_same (by simp -dsimp -implicitDefEqProofs (disch := omega) [go_sem, -List.getD_eq_getElem?_getD, ite_yes, ht])
  intro k hk
  by_cases hlt : k < R.length
  · have hlti : (k : Int) < (R.length : Int) := by omega
    have k1 := cs k hlt
    obtain ⟨hn, hnl⟩ := hS.ns _ (akmem hlt)
    have hix := hgt k hlt
    unfold rankIx at hix
    rw [Bool.and_eq_true, Bool.or_eq_true, decide_eq_true_eq, decide_eq_true_eq] at hix
    have kp := fun (hk0 : 0 < k) => c0 (k - 1) (by omega)
    generalize R.getD k akD = r at *
    have hv : areaB r.1 r.2.1 r.2.2.2.2 = true := hix.1
    have A := fun L => validArea_A r.1 r.2.1 r.2.2.2.2 hnl r.2.2.2.1 (roH (H ++ L)) r.2.2.1 hn.app.ro
    rw [hv] at A
    have hrt := hn.lt
    simp -dsimp -implicitDefEqProofs (disch := omega) [go_sem, -List.getD_eq_getElem?_getD, ite_yes, hlt, hlti, k1, ht, hrt]
    refine ADraw.quiet (by kernel_rfl) (by kernel_rfl) (by kernel_rfl) ?_
    simp -dsimp -implicitDefEqProofs (disch := omega) [go_sem, -List.getD_eq_getElem?_getD, ite_yes, hlt, hlti, k1, ht, hrt]
    refine ACallQ.of (A _) rfl ?_
    rcases Nat.eq_zero_or_pos k with h0 | h0
    · subst h0
      simp -dsimp -implicitDefEqProofs (disch := omega) [go_sem, -List.getD_eq_getElem?_getD, ite_yes]
      exact LoopEnd.of 1 (by omega) (by omega) (weakS_drop (by simp -dsimp -implicitDefEqProofs (disch := omega) [go_sem, -List.getD_eq_getElem?_getD, ite_yes, ht]))
    have h0i : (0 : Int) < (k : Int) := by omega
    obtain ⟨j, rfl⟩ : ∃ j, k = j + 1 := ⟨k - 1, by omega⟩
    have kp := kp h0
    rw [Nat.add_sub_cancel] at kp hix
    have hj : j < R.length := by omega
    have hji : (j : Int) < (R.length : Int) := by omega
    have hc : ¬ r.1 ≤ (R.getD j akD).1 := by omega
    generalize R.getD j akD = q at *
    simp -dsimp -implicitDefEqProofs (disch := omega) [go_sem, -List.getD_eq_getElem?_getD, ite_yes, hlt, hlti, h0, h0i, kp, ht, hj, hji, hc]
    exact LoopEnd.of (j + 1 + 1) (by omega) (by omega) (weakS_drop (by simp -dsimp -implicitDefEqProofs (disch := omega) [go_sem, -List.getD_eq_getElem?_getD, ite_yes, ht]))
  obtain rfl : k = R.length := by omega
  have hlti : ¬ (R.length : Int) < (R.length : Int) := by omega
  have al := hS.sp.all (s := 3) (fun _ => rfl)
  have lf := akE_length R
  have hA : ∀ r ∈ R, r.2.2.1 < H.length := fun r hr => (hS.ns r hr).1.lt
  have hol : (sortK moreK R).length = R.length := ordK_length moreK R _
  have hAs : ∀ r ∈ sortK moreK R, r.2.2.1 < H.length := fun r hr => hA r (ordK_mem (Nat.le_refl _) hr)
  simp -dsimp -implicitDefEqProofs (disch := omega) [go_sem, -List.getD_eq_getElem?_getD, ite_yes, hlti, al, lf, ht]
  refine ⟨by omega, ?_⟩
  refine ACall.of (sortStableK_A moreK R hl8 _ 39 19 _ _ ((Heap.get_len_add _ _ 1).trans rfl) (fun r hr => by have := hA r hr; simp; omega) ?_) ?_
  · intro G hG hGl x hx y hy
    have gS : ∀ r ∈ R, Sl nmE G r.2.2.1 r.2.2.2.2 := fun r hr => by
      obtain ⟨b, w, hb, ex⟩ := (hS.ns r hr).1
      have hb' := Heap.get_lt hb
      exact ⟨b, w, by rw [hG _ (by omega), Heap.get_append_left hb']; exact hb, ex⟩
    exact ⟨_, rank1_A x y (hAr x hx) (hAr y hy) (roH G) (gS x hx).ro (gS y hy).ro, cmpI_more x y⟩
  have eN : rankN R = idsTo (sortK moreK R) R.length := rfl
  rw [eN]
  generalize sortK moreK R = S at *
  have sf := akE_length S
  simp -dsimp -implicitDefEqProofs (disch := omega) [go_sem, -List.getD_eq_getElem?_getD, ite_yes]
  refine ALoop.intro (ι := Nat) (fun k => k ≤ R.length) (fun k => [(7, .slice (some ⟨H.length, 0, none⟩) k 0), (45, .slice (some ⟨H.length + 1, 0, none⟩) R.length 0), (46, .int .i64 R.length), (47, .int .i64 k)])
    (fun k => H ++ [some ⟨(idsTo S k).flatMap nmE, true, 3, 1⟩, some ⟨S.flatMap akE, true, 39, 3⟩]) (fun k => R.length - k) 0 (by omega) ?_ ?_
  · refine weakS_mk [some 2, some 1] rfl ?_ (by simp -dsimp -implicitDefEqProofs (disch := omega) [go_sem, -List.getD_eq_getElem?_getD, ite_yes, ht])
    simp -dsimp -implicitDefEqProofs (disch := omega) [go_sem, -List.getD_eq_getElem?_getD, ite_yes]
    exact ⟨.inl ⟨rfl, rfl⟩, wl_aks hAs⟩
  intro k hk
  have il := idsTo_length (R := S) (k := k) (by omega)
  have iff' : ((idsTo S k).flatMap nmE).length = k := by rw [nmE_length, il]; omega
  by_cases hlt : k < R.length
  · have hlti : (k : Int) < (R.length : Int) := by omega
    have fc := flatMap_cells akE 3 (fun _ => rfl) akD S k (by omega)
    simp only [akE] at fc
    have e := idsTo_next (R := S) (k := k) (by omega)
    have hk3 : k * 3 + 3 ≤ S.length * 3 := by omega
    generalize S.getD k akD = r at *
    simp -dsimp -implicitDefEqProofs (disch := omega) [go_sem, -List.getD_eq_getElem?_getD, ite_yes, hlt, hlti, fc, sf, hk3, hol, iff']
    refine ⟨by omega, LoopEnd.of (k + 1) (by omega) (by omega) (weakS_mk [some 4, some 1] rfl ?_ (by simp -dsimp -implicitDefEqProofs (disch := omega) [go_sem, -List.getD_eq_getElem?_getD, ite_yes, ht]))⟩
    simp -dsimp -implicitDefEqProofs (disch := omega) [go_sem, -List.getD_eq_getElem?_getD, ite_yes]
    exact ⟨.inl ⟨by rw [e, List.flatMap_append]; rfl, by rw [show List.flatMap nmE (idsTo S k) ++ [Value.int IntKind.i64 r.1] = List.flatMap nmE (idsTo S (k + 1)) by rw [e, List.flatMap_append]; rfl]; exact nmE_flat _⟩, wl_aks hAs⟩
  · have hlti : ¬ (k : Int) < (R.length : Int) := by omega
    obtain rfl : k = R.length := by omega
    simp -dsimp -implicitDefEqProofs (disch := omega) [go_sem, -List.getD_eq_getElem?_getD, ite_yes, hlti]
    refine fin_list [some 0] rfl ?_ (by simp -dsimp -implicitDefEqProofs (disch := omega) [go_sem, -List.getD_eq_getElem?_getD, ite_yes, il])
    simp -dsimp -implicitDefEqProofs (disch := omega) [go_sem, -List.getD_eq_getElem?_getD, ite_yes]
    exact .inl ⟨rfl, nmE_flat _⟩
end Go.Proofs.Ytdbneadblnejgaa
/- RankAreas: the reference's side. -/
namespace Go.Proofs.Ytdbneadblnejgaa
open Go.Am
set_option linter.unusedVariables false
set_option linter.unusedSimpArgs false
set_option maxRecDepth 100000
set_option maxHeartbeats 8000000
theorem ak_take (L : List Ak) (k : Nat) : List.take (k * 3) (L.flatMap akE) = (L.take k).flatMap akE := by
  induction L generalizing k with
  | nil => simp
  | cons x L ih =>
    cases k with
    | zero => simp
    | succ k =>
      rw [List.flatMap_cons, List.take_succ_cons, List.flatMap_cons, show (k + 1) * 3 = (akE x).length + k * 3 by simp [akE]; omega, List.take_length_add_append, ih]
theorem ak_drop (L : List Ak) (k : Nat) : List.drop (k * 3) (L.flatMap akE) = (L.drop k).flatMap akE := by
  induction L generalizing k with
  | nil => simp
  | cons x L ih =>
    cases k with
    | zero => simp
    | succ k =>
      rw [List.flatMap_cons, List.drop_succ_cons, show (k + 1) * 3 = (akE x).length + k * 3 by simp [akE]; omega, List.drop_length_add_append, ih]
theorem sRank_bad (R : List Ak) (hl : R.length ≤ 1048577) (hg : rankB R = false) (c : Nat) (H : Heap) (t : Nat) (hS : AksAt H t R) :
    AFunC Try.prog 5 [.slice (some ⟨t, 0, none⟩) R.length c] H (.tuple #[.slice (some ⟨H.length, 0, none⟩) 0 0, .bool false]) (H ++ [some ⟨[], true, 3, 1⟩]) := by
  refine AFunC.of_body Try.func5 (by kernel_rfl) rfl (by kernel_rfl) (by simp [Try.ntmps5]) ?_
  have ht := hS.sp.lt
  simp -dsimp -implicitDefEqProofs (disch := omega) [go_sem, -List.getD_eq_getElem?_getD, ite_yes, ht]
  refine ACall.of (l17List_Ak R hl c _ t hS.app) ?_
  simp -dsimp -implicitDefEqProofs (disch := omega) [go_sem, -List.getD_eq_getElem?_getD, ite_yes, hg]
  refine fin_list [some 0] rfl ?_ (by simp -dsimp -implicitDefEqProofs (disch := omega) [go_sem, -List.getD_eq_getElem?_getD, ite_yes])
  simp -dsimp -implicitDefEqProofs (disch := omega) [go_sem, -List.getD_eq_getElem?_getD, ite_yes]
  exact .inl ⟨rfl, rfl⟩
theorem sRank_good (R : List Ak) (hg : rankB R = true) (c : Nat) (H : Heap) (t : Nat) (hS : AksAt H t R) :
    AFunC Try.prog 5 [.slice (some ⟨t, 0, none⟩) R.length c] H (.tuple #[.slice (some ⟨H.length, 0, none⟩) (rankN R).length 0, .bool true]) (H ++ [some ⟨(rankN R).flatMap nmE, true, 3, 1⟩]) := by
  refine AFunC.of_body Try.func5 (by kernel_rfl) rfl (by kernel_rfl) (by simp [Try.ntmps5]) ?_
  have ht := hS.sp.lt
  obtain ⟨hl8, hAr⟩ := rankB_at hg
  have cs := fun k hk => hS.sp.cells (s := 3) (fun _ => rfl) akD k hk
  simp only [akE] at cs
  have hA : ∀ r ∈ R, r.2.2.1 < H.length := fun r hr => (hS.ns r hr).1.lt
  simp -dsimp -implicitDefEqProofs (disch := omega) [go_sem, -List.getD_eq_getElem?_getD, ite_yes, ht]
  refine ACall.of (l17List_Ak R (by omega) c _ t hS.app) ?_
  simp -dsimp -implicitDefEqProofs (disch := omega) [go_sem, -List.getD_eq_getElem?_getD, ite_yes, hg, ht]
  refine ALoop.intro (ι := Nat) (fun i => i ≤ R.length) (fun i => [(0, .slice (some ⟨t, 0, none⟩) R.length c), (4, .slice (some ⟨H.length, 0, none⟩) 0 0), (5, .slice (some ⟨H.length + 1, 0, none⟩) i 0), (6, .int .i64 i)])
    (fun i => H ++ [some ⟨[], true, 3, 1⟩, some ⟨(ordK moreK R i).flatMap akE, true, 39, 3⟩]) (fun i => R.length - i) 0 (by omega) ?_ ?_
  · refine weakS_mk [some 0, some 1] rfl ?_ (by simp -dsimp -implicitDefEqProofs (disch := omega) [go_sem, -List.getD_eq_getElem?_getD, ite_yes, ht])
    simp -dsimp -implicitDefEqProofs (disch := omega) [go_sem, -List.getD_eq_getElem?_getD, ite_yes]
    exact ⟨.inl ⟨rfl, rfl⟩, .inl ⟨rfl, rfl⟩⟩
  intro i hi
  have hol := ordK_length moreK R i
  have hof : ((ordK moreK R i).flatMap akE).length = i * 3 := by rw [akE_length, hol]
  have hOm : ∀ r ∈ ordK moreK R i, r ∈ R := fun r hr => ordK_mem hi hr
  have hOA : ∀ r ∈ ordK moreK R i, r.2.2.1 < H.length := fun r hr => hA r (hOm r hr)
  by_cases hlt : i < R.length
  rotate_left
  · obtain rfl : i = R.length := by omega
    have hlti : ¬ (R.length : Int) < (R.length : Int) := by omega
    have eN : rankN R = idsTo (sortK moreK R) R.length := rfl
    have eS : sortK moreK R = ordK moreK R R.length := rfl
    rw [eN, eS]
    generalize ordK moreK R R.length = S at *
    simp -dsimp -implicitDefEqProofs (disch := omega) [go_sem, -List.getD_eq_getElem?_getD, ite_yes, hlti]
    refine ALoop.intro (ι := Nat) (fun k => k ≤ R.length) (fun k => [(4, .slice (some ⟨H.length, 0, none⟩) k 0), (5, .slice (some ⟨H.length + 1, 0, none⟩) R.length 0), (8, .int .i64 k)])
      (fun k => H ++ [some ⟨(idsTo S k).flatMap nmE, true, 3, 1⟩, some ⟨S.flatMap akE, true, 39, 3⟩]) (fun k => R.length - k) 0 (by omega) ?_ ?_
    · refine weakS_mk [some 0, some 1] rfl ?_ (by simp -dsimp -implicitDefEqProofs (disch := omega) [go_sem, -List.getD_eq_getElem?_getD, ite_yes, ht])
      simp -dsimp -implicitDefEqProofs (disch := omega) [go_sem, -List.getD_eq_getElem?_getD, ite_yes]
      exact ⟨.inl ⟨rfl, rfl⟩, wl_aks hOA⟩
    intro k hk
    have il := idsTo_length (R := S) (k := k) (by omega)
    have iff' : ((idsTo S k).flatMap nmE).length = k := by rw [nmE_length, il]; omega
    by_cases hlt : k < R.length
    · have hlti : (k : Int) < (R.length : Int) := by omega
      have fc := flatMap_cells akE 3 (fun _ => rfl) akD S k (by omega)
      have e := idsTo_next (R := S) (k := k) (by omega)
      have hk3 : k * 3 + 1 ≤ R.length * 3 := by omega
      have f1 : List.take 1 (List.drop (k * 3) (S.flatMap akE)) = [.int .i64 (S.getD k akD).1] := by
        have h2 : List.take 1 (List.take 3 (List.drop (k * 3) (S.flatMap akE))) = [.int .i64 (S.getD k akD).1] := by rw [fc]; rfl
        rwa [List.take_take] at h2
      generalize S.getD k akD = r at *
      simp -dsimp -implicitDefEqProofs (disch := omega) [go_sem, -List.getD_eq_getElem?_getD, ite_yes, hlt, hlti, f1, hof, hk3, hol, iff']
      refine ⟨by omega, LoopEnd.of (k + 1) (by omega) (by omega) (weakS_mk [some 3, some 1] rfl ?_ (by simp -dsimp -implicitDefEqProofs (disch := omega) [go_sem, -List.getD_eq_getElem?_getD, ite_yes, ht]))⟩
      simp -dsimp -implicitDefEqProofs (disch := omega) [go_sem, -List.getD_eq_getElem?_getD, ite_yes]
      exact ⟨.inl ⟨by rw [e, List.flatMap_append]; rfl, by rw [show List.flatMap nmE (idsTo S k) ++ [Value.int IntKind.i64 r.1] = List.flatMap nmE (idsTo S (k + 1)) by rw [e, List.flatMap_append]; rfl]; exact nmE_flat _⟩, wl_aks hOA⟩
    · have hlti : ¬ (k : Int) < (R.length : Int) := by omega
      obtain rfl : k = R.length := by omega
      simp -dsimp -implicitDefEqProofs (disch := omega) [go_sem, -List.getD_eq_getElem?_getD, ite_yes, hlti]
      refine fin_list [some 0] rfl ?_ (by simp -dsimp -implicitDefEqProofs (disch := omega) [go_sem, -List.getD_eq_getElem?_getD, ite_yes, il])
      simp -dsimp -implicitDefEqProofs (disch := omega) [go_sem, -List.getD_eq_getElem?_getD, ite_yes]
      exact .inl ⟨rfl, nmE_flat _⟩
  have hlti : (i : Int) < (R.length : Int) := by omega
  have eO : ordK moreK R (i + 1) = (ordK moreK R i).take (posK moreK (ordK moreK R i) (R.getD i akD) i) ++ R.getD i akD :: (ordK moreK R i).drop (posK moreK (ordK moreK R i) (R.getD i akD) i) := by
    rw [ordK, insK, hol]
  have x1 := cs i hlt
  have hxm := akmem hlt
  obtain ⟨O', hO'⟩ : ∃ O', ordK moreK R (i + 1) = O' := ⟨_, rfl⟩
  have hol' := ordK_length moreK R (i + 1)
  have hOA' : ∀ r ∈ ordK moreK R (i + 1), r.2.2.1 < H.length := fun r hr => hA r (ordK_mem hlt hr)
  rw [hO'] at eO hol' hOA'
  generalize ordK moreK R i = O at *
  generalize R.getD i akD = x at *
  have hxA := hA x hxm
  simp -dsimp -implicitDefEqProofs (disch := omega) [go_sem, -List.getD_eq_getElem?_getD, ite_yes, hlt, hlti]
  refine ALoop.intro (ι := Nat) (fun k => k ≤ i ∧ posK moreK O x i = posK moreK O x k) (fun k => [(0, .slice (some ⟨t, 0, none⟩) R.length c), (4, .slice (some ⟨H.length, 0, none⟩) 0 0), (5, .slice (some ⟨H.length + 1, 0, none⟩) i 0), (6, .int .i64 i), (7, .int .i64 k)])
    (fun _ => H ++ [some ⟨[], true, 3, 1⟩, some ⟨O.flatMap akE, true, 39, 3⟩]) (fun k => k) i ⟨Nat.le_refl _, rfl⟩ ?_ ?_
  · refine weakS_mk [some 0, some 1] rfl ?_ (by simp -dsimp -implicitDefEqProofs (disch := omega) [go_sem, -List.getD_eq_getElem?_getD, ite_yes, ht])
    simp -dsimp -implicitDefEqProofs (disch := omega) [go_sem, -List.getD_eq_getElem?_getD, ite_yes]
    exact ⟨.inl ⟨rfl, rfl⟩, wl_aks hOA⟩
  rintro k ⟨hk, hpos⟩
  cases k with
  | zero =>
    have hp0 : posK moreK O x i = 0 := hpos
    rw [hp0] at eO
    have n1 := ak_take O 0
    have n2 := ak_drop O 0
    have n4 : (O.flatMap akE).length = i * 3 := hof
    have n5 : List.take (i * 3) (O.flatMap akE) = O.flatMap akE := List.take_of_length_le (by omega)
    have e4 : 1 + i = i + 1 := by omega
    have ef : O'.flatMap akE = akE x ++ O.flatMap akE := by rw [eO]; simp
    simp only [akE, List.cons_append, List.nil_append] at ef
    simp -dsimp -implicitDefEqProofs (disch := omega) [go_sem, -List.getD_eq_getElem?_getD, ite_yes, ht]
    refine ADraw.quiet (by kernel_rfl) (by kernel_rfl) (by kernel_rfl) ?_
    simp -dsimp -implicitDefEqProofs (disch := omega) [go_sem, -List.getD_eq_getElem?_getD, ite_yes, ht, hlt, hlti, hof]
    refine ADraw.mid [(0, .slice (some ⟨t, 0, none⟩) R.length c), (4, .slice (some ⟨H.length, 0, none⟩) 0 0), (5, .slice (some ⟨H.length + 1, 0, none⟩) (i + 1) 0), (6, .int .i64 i)] (H ++ [some ⟨[], true, 3, 1⟩, some ⟨O'.flatMap akE, true, 39, 3⟩]) ?_ ?_
    · skip
      refine ADraw.any (H ++ [some ⟨[], true, 3, 1⟩, some ⟨O.flatMap akE, true, 39, 3⟩]) (by kernel_rfl) (by first | exact SubH.refl | exact SubH.app | exact SubH.both (by simp [subL])) ?_
      refine AAny.takes (fuel := 7) (by kernel_rfl) (by kernel_rfl) [1, 2, 3, 5, 6, 7, 11, 12, 13] (by kernel_rfl) (by kernel_rfl) ?_
      simp -dsimp -implicitDefEqProofs (disch := omega) [go_sem, -List.getD_eq_getElem?_getD, ite_yes, ht, hlt, hlti, hof, x1, n4, n5]
      refine AAny.two 6 0 8 (by kernel_rfl) (by kernel_rfl) (by kernel_rfl) ?_ ?_
      · simp -dsimp -implicitDefEqProofs (disch := omega) [go_sem, -List.getD_eq_getElem?_getD, ite_yes, ht, hlt, hlti, hof, x1, n4, n5]
        first | refine AAt.of (by first | exact SubH.refl | exact SubH.app | exact SubH.both (by simp [subL])) ?_ | (refine ⟨?_, AAt.of (by first | exact SubH.refl | exact SubH.app | exact SubH.both (by simp [subL])) ?_⟩; · omega)
        refine AAny.two 5 4 8 (by kernel_rfl) (by kernel_rfl) (by kernel_rfl) ?_ ?_
        · simp -dsimp -implicitDefEqProofs (disch := omega) [go_sem, -List.getD_eq_getElem?_getD, ite_yes, ht, hlt, hlti, hof, x1, n4, n5]
          first | refine AAt.of (by first | exact SubH.refl | exact SubH.app | exact SubH.both (by simp [subL])) ?_ | (refine ⟨?_, AAt.of (by first | exact SubH.refl | exact SubH.app | exact SubH.both (by simp [subL])) ?_⟩; · omega)
          refine AAny.one 4 8 (by kernel_rfl) (by kernel_rfl) (by kernel_rfl) ?_
          simp -dsimp -implicitDefEqProofs (disch := omega) [go_sem, -List.getD_eq_getElem?_getD, ite_yes, ht, hlt, hlti, hof, x1, n4, n5]
          first | refine AAt.of (by first | exact SubH.refl | exact SubH.app | exact SubH.both (by simp [subL])) ?_ | (refine ⟨?_, AAt.of (by first | exact SubH.refl | exact SubH.app | exact SubH.both (by simp [subL])) ?_⟩; · omega)
          refine AAny.one 3 9 (by kernel_rfl) (by kernel_rfl) (by kernel_rfl) ?_
          simp -dsimp -implicitDefEqProofs (disch := omega) [go_sem, -List.getD_eq_getElem?_getD, ite_yes, ht, hlt, hlti, hof, x1, n4, n5]
          first | refine AAt.of (by first | exact SubH.refl | exact SubH.app | exact SubH.both (by simp [subL])) ?_ | (refine ⟨?_, AAt.of (by first | exact SubH.refl | exact SubH.app | exact SubH.both (by simp [subL])) ?_⟩; · omega)
          refine AAny.one 2 10 (by kernel_rfl) (by kernel_rfl) (by kernel_rfl) ?_
          simp -dsimp -implicitDefEqProofs (disch := omega) [go_sem, -List.getD_eq_getElem?_getD, ite_yes, ht, hlt, hlti, hof, x1, n4, n5]
          first | refine AAt.of (by first | exact SubH.refl | exact SubH.app | exact SubH.both (by simp [subL])) ?_ | (refine ⟨?_, AAt.of (by first | exact SubH.refl | exact SubH.app | exact SubH.both (by simp [subL])) ?_⟩; · omega)
          refine AAny.one 1 14 (by kernel_rfl) (by kernel_rfl) (by kernel_rfl) ?_
          simp -dsimp -implicitDefEqProofs (disch := omega) [go_sem, -List.getD_eq_getElem?_getD, ite_yes, ht, hlt, hlti, hof, x1, n4, n5]
          first | refine AAt.of (by first | exact SubH.refl | exact SubH.app | exact SubH.both (by simp [subL])) ?_ | (refine ⟨?_, AAt.of (by first | exact SubH.refl | exact SubH.app | exact SubH.both (by simp [subL])) ?_⟩; · omega)
          refine AAny.takes (fuel := 0) (by kernel_rfl) (by kernel_rfl) [15] (by kernel_rfl) (by kernel_rfl) ?_
          simp -dsimp -implicitDefEqProofs (disch := omega) [go_sem, -List.getD_eq_getElem?_getD, ite_yes, ht, hlt, hlti, hof, x1, n4, n5]
          refine AAny.done (by kernel_rfl) ?_
          simp -dsimp -implicitDefEqProofs (disch := omega) [go_sem, -List.getD_eq_getElem?_getD, ite_yes, ht, hlt, hlti, hof, x1, n4, n5]
          try (refine ⟨weakS_mk [some 0, some 5] rfl ?_ (by simp -dsimp -implicitDefEqProofs (disch := omega) [go_sem, -List.getD_eq_getElem?_getD, ite_yes, ht, e4])⟩; simp -dsimp -implicitDefEqProofs (disch := omega) [go_sem, -List.getD_eq_getElem?_getD, ite_yes, ht, hlt, hlti, hof, x1, n4, n5]; rw [← ef]; exact ⟨.inl ⟨rfl, rfl⟩, wl_aks hOA'⟩)
          try (refine ⟨weakS_mk [some 0, some 6] rfl ?_ (by simp -dsimp -implicitDefEqProofs (disch := omega) [go_sem, -List.getD_eq_getElem?_getD, ite_yes, ht, e4])⟩; simp -dsimp -implicitDefEqProofs (disch := omega) [go_sem, -List.getD_eq_getElem?_getD, ite_yes, ht, hlt, hlti, hof, x1, n4, n5]; rw [← ef]; exact ⟨.inl ⟨rfl, rfl⟩, wl_aks hOA'⟩)
        · simp -dsimp -implicitDefEqProofs (disch := omega) [go_sem, -List.getD_eq_getElem?_getD, ite_yes, ht, hlt, hlti, hof, x1, n4, n5]
          first | refine AAt.of (by first | exact SubH.refl | exact SubH.app | exact SubH.both (by simp [subL])) ?_ | (refine ⟨?_, AAt.of (by first | exact SubH.refl | exact SubH.app | exact SubH.both (by simp [subL])) ?_⟩; · omega)
          refine AAny.two 4 4 9 (by kernel_rfl) (by kernel_rfl) (by kernel_rfl) ?_ ?_
          · simp -dsimp -implicitDefEqProofs (disch := omega) [go_sem, -List.getD_eq_getElem?_getD, ite_yes, ht, hlt, hlti, hof, x1, n4, n5]
            first | refine AAt.of (by first | exact SubH.refl | exact SubH.app | exact SubH.both (by simp [subL])) ?_ | (refine ⟨?_, AAt.of (by first | exact SubH.refl | exact SubH.app | exact SubH.both (by simp [subL])) ?_⟩; · omega)
            refine AAny.one 3 9 (by kernel_rfl) (by kernel_rfl) (by kernel_rfl) ?_
            simp -dsimp -implicitDefEqProofs (disch := omega) [go_sem, -List.getD_eq_getElem?_getD, ite_yes, ht, hlt, hlti, hof, x1, n4, n5]
            first | refine AAt.of (by first | exact SubH.refl | exact SubH.app | exact SubH.both (by simp [subL])) ?_ | (refine ⟨?_, AAt.of (by first | exact SubH.refl | exact SubH.app | exact SubH.both (by simp [subL])) ?_⟩; · omega)
            refine AAny.one 2 10 (by kernel_rfl) (by kernel_rfl) (by kernel_rfl) ?_
            simp -dsimp -implicitDefEqProofs (disch := omega) [go_sem, -List.getD_eq_getElem?_getD, ite_yes, ht, hlt, hlti, hof, x1, n4, n5]
            first | refine AAt.of (by first | exact SubH.refl | exact SubH.app | exact SubH.both (by simp [subL])) ?_ | (refine ⟨?_, AAt.of (by first | exact SubH.refl | exact SubH.app | exact SubH.both (by simp [subL])) ?_⟩; · omega)
            refine AAny.one 1 14 (by kernel_rfl) (by kernel_rfl) (by kernel_rfl) ?_
            simp -dsimp -implicitDefEqProofs (disch := omega) [go_sem, -List.getD_eq_getElem?_getD, ite_yes, ht, hlt, hlti, hof, x1, n4, n5]
            first | refine AAt.of (by first | exact SubH.refl | exact SubH.app | exact SubH.both (by simp [subL])) ?_ | (refine ⟨?_, AAt.of (by first | exact SubH.refl | exact SubH.app | exact SubH.both (by simp [subL])) ?_⟩; · omega)
            refine AAny.takes (fuel := 0) (by kernel_rfl) (by kernel_rfl) [15] (by kernel_rfl) (by kernel_rfl) ?_
            simp -dsimp -implicitDefEqProofs (disch := omega) [go_sem, -List.getD_eq_getElem?_getD, ite_yes, ht, hlt, hlti, hof, x1, n4, n5]
            refine AAny.done (by kernel_rfl) ?_
            simp -dsimp -implicitDefEqProofs (disch := omega) [go_sem, -List.getD_eq_getElem?_getD, ite_yes, ht, hlt, hlti, hof, x1, n4, n5]
            try (refine ⟨weakS_mk [some 0, some 5] rfl ?_ (by simp -dsimp -implicitDefEqProofs (disch := omega) [go_sem, -List.getD_eq_getElem?_getD, ite_yes, ht, e4])⟩; simp -dsimp -implicitDefEqProofs (disch := omega) [go_sem, -List.getD_eq_getElem?_getD, ite_yes, ht, hlt, hlti, hof, x1, n4, n5]; rw [← ef]; exact ⟨.inl ⟨rfl, rfl⟩, wl_aks hOA'⟩)
            try (refine ⟨weakS_mk [some 0, some 6] rfl ?_ (by simp -dsimp -implicitDefEqProofs (disch := omega) [go_sem, -List.getD_eq_getElem?_getD, ite_yes, ht, e4])⟩; simp -dsimp -implicitDefEqProofs (disch := omega) [go_sem, -List.getD_eq_getElem?_getD, ite_yes, ht, hlt, hlti, hof, x1, n4, n5]; rw [← ef]; exact ⟨.inl ⟨rfl, rfl⟩, wl_aks hOA'⟩)
          · simp -dsimp -implicitDefEqProofs (disch := omega) [go_sem, -List.getD_eq_getElem?_getD, ite_yes, ht, hlt, hlti, hof, x1, n4, n5]
            first | refine AAt.of (by first | exact SubH.refl | exact SubH.app | exact SubH.both (by simp [subL])) ?_ | (refine ⟨?_, AAt.of (by first | exact SubH.refl | exact SubH.app | exact SubH.both (by simp [subL])) ?_⟩; · omega)
            refine AAny.one 3 4 (by kernel_rfl) (by kernel_rfl) (by kernel_rfl) ?_
            simp -dsimp -implicitDefEqProofs (disch := omega) [go_sem, -List.getD_eq_getElem?_getD, ite_yes, ht, hlt, hlti, hof, x1, n4, n5]
            first | refine AAt.of (by first | exact SubH.refl | exact SubH.app | exact SubH.both (by simp [subL])) ?_ | (refine ⟨?_, AAt.of (by first | exact SubH.refl | exact SubH.app | exact SubH.both (by simp [subL])) ?_⟩; · omega)
            refine AAny.one 2 10 (by kernel_rfl) (by kernel_rfl) (by kernel_rfl) ?_
            simp -dsimp -implicitDefEqProofs (disch := omega) [go_sem, -List.getD_eq_getElem?_getD, ite_yes, ht, hlt, hlti, hof, x1, n4, n5]
            first | refine AAt.of (by first | exact SubH.refl | exact SubH.app | exact SubH.both (by simp [subL])) ?_ | (refine ⟨?_, AAt.of (by first | exact SubH.refl | exact SubH.app | exact SubH.both (by simp [subL])) ?_⟩; · omega)
            refine AAny.one 1 14 (by kernel_rfl) (by kernel_rfl) (by kernel_rfl) ?_
            simp -dsimp -implicitDefEqProofs (disch := omega) [go_sem, -List.getD_eq_getElem?_getD, ite_yes, ht, hlt, hlti, hof, x1, n4, n5]
            first | refine AAt.of (by first | exact SubH.refl | exact SubH.app | exact SubH.both (by simp [subL])) ?_ | (refine ⟨?_, AAt.of (by first | exact SubH.refl | exact SubH.app | exact SubH.both (by simp [subL])) ?_⟩; · omega)
            refine AAny.takes (fuel := 0) (by kernel_rfl) (by kernel_rfl) [15] (by kernel_rfl) (by kernel_rfl) ?_
            simp -dsimp -implicitDefEqProofs (disch := omega) [go_sem, -List.getD_eq_getElem?_getD, ite_yes, ht, hlt, hlti, hof, x1, n4, n5]
            refine AAny.done (by kernel_rfl) ?_
            simp -dsimp -implicitDefEqProofs (disch := omega) [go_sem, -List.getD_eq_getElem?_getD, ite_yes, ht, hlt, hlti, hof, x1, n4, n5]
            try (refine ⟨weakS_mk [some 0, some 5] rfl ?_ (by simp -dsimp -implicitDefEqProofs (disch := omega) [go_sem, -List.getD_eq_getElem?_getD, ite_yes, ht, e4])⟩; simp -dsimp -implicitDefEqProofs (disch := omega) [go_sem, -List.getD_eq_getElem?_getD, ite_yes, ht, hlt, hlti, hof, x1, n4, n5]; rw [← ef]; exact ⟨.inl ⟨rfl, rfl⟩, wl_aks hOA'⟩)
            try (refine ⟨weakS_mk [some 0, some 6] rfl ?_ (by simp -dsimp -implicitDefEqProofs (disch := omega) [go_sem, -List.getD_eq_getElem?_getD, ite_yes, ht, e4])⟩; simp -dsimp -implicitDefEqProofs (disch := omega) [go_sem, -List.getD_eq_getElem?_getD, ite_yes, ht, hlt, hlti, hof, x1, n4, n5]; rw [← ef]; exact ⟨.inl ⟨rfl, rfl⟩, wl_aks hOA'⟩)
      · simp -dsimp -implicitDefEqProofs (disch := omega) [go_sem, -List.getD_eq_getElem?_getD, ite_yes, ht, hlt, hlti, hof, x1, n4, n5]
        first | refine AAt.of (by first | exact SubH.refl | exact SubH.app | exact SubH.both (by simp [subL])) ?_ | (refine ⟨?_, AAt.of (by first | exact SubH.refl | exact SubH.app | exact SubH.both (by simp [subL])) ?_⟩; · omega)
        refine AAny.two 5 0 9 (by kernel_rfl) (by kernel_rfl) (by kernel_rfl) ?_ ?_
        · simp -dsimp -implicitDefEqProofs (disch := omega) [go_sem, -List.getD_eq_getElem?_getD, ite_yes, ht, hlt, hlti, hof, x1, n4, n5]
          first | refine AAt.of (by first | exact SubH.refl | exact SubH.app | exact SubH.both (by simp [subL])) ?_ | (refine ⟨?_, AAt.of (by first | exact SubH.refl | exact SubH.app | exact SubH.both (by simp [subL])) ?_⟩; · omega)
          refine AAny.two 4 4 9 (by kernel_rfl) (by kernel_rfl) (by kernel_rfl) ?_ ?_
          · simp -dsimp -implicitDefEqProofs (disch := omega) [go_sem, -List.getD_eq_getElem?_getD, ite_yes, ht, hlt, hlti, hof, x1, n4, n5]
            first | refine AAt.of (by first | exact SubH.refl | exact SubH.app | exact SubH.both (by simp [subL])) ?_ | (refine ⟨?_, AAt.of (by first | exact SubH.refl | exact SubH.app | exact SubH.both (by simp [subL])) ?_⟩; · omega)
            refine AAny.one 3 9 (by kernel_rfl) (by kernel_rfl) (by kernel_rfl) ?_
            simp -dsimp -implicitDefEqProofs (disch := omega) [go_sem, -List.getD_eq_getElem?_getD, ite_yes, ht, hlt, hlti, hof, x1, n4, n5]
            first | refine AAt.of (by first | exact SubH.refl | exact SubH.app | exact SubH.both (by simp [subL])) ?_ | (refine ⟨?_, AAt.of (by first | exact SubH.refl | exact SubH.app | exact SubH.both (by simp [subL])) ?_⟩; · omega)
            refine AAny.one 2 10 (by kernel_rfl) (by kernel_rfl) (by kernel_rfl) ?_
            simp -dsimp -implicitDefEqProofs (disch := omega) [go_sem, -List.getD_eq_getElem?_getD, ite_yes, ht, hlt, hlti, hof, x1, n4, n5]
            first | refine AAt.of (by first | exact SubH.refl | exact SubH.app | exact SubH.both (by simp [subL])) ?_ | (refine ⟨?_, AAt.of (by first | exact SubH.refl | exact SubH.app | exact SubH.both (by simp [subL])) ?_⟩; · omega)
            refine AAny.one 1 14 (by kernel_rfl) (by kernel_rfl) (by kernel_rfl) ?_
            simp -dsimp -implicitDefEqProofs (disch := omega) [go_sem, -List.getD_eq_getElem?_getD, ite_yes, ht, hlt, hlti, hof, x1, n4, n5]
            first | refine AAt.of (by first | exact SubH.refl | exact SubH.app | exact SubH.both (by simp [subL])) ?_ | (refine ⟨?_, AAt.of (by first | exact SubH.refl | exact SubH.app | exact SubH.both (by simp [subL])) ?_⟩; · omega)
            refine AAny.takes (fuel := 0) (by kernel_rfl) (by kernel_rfl) [15] (by kernel_rfl) (by kernel_rfl) ?_
            simp -dsimp -implicitDefEqProofs (disch := omega) [go_sem, -List.getD_eq_getElem?_getD, ite_yes, ht, hlt, hlti, hof, x1, n4, n5]
            refine AAny.done (by kernel_rfl) ?_
            simp -dsimp -implicitDefEqProofs (disch := omega) [go_sem, -List.getD_eq_getElem?_getD, ite_yes, ht, hlt, hlti, hof, x1, n4, n5]
            try (refine ⟨weakS_mk [some 0, some 5] rfl ?_ (by simp -dsimp -implicitDefEqProofs (disch := omega) [go_sem, -List.getD_eq_getElem?_getD, ite_yes, ht, e4])⟩; simp -dsimp -implicitDefEqProofs (disch := omega) [go_sem, -List.getD_eq_getElem?_getD, ite_yes, ht, hlt, hlti, hof, x1, n4, n5]; rw [← ef]; exact ⟨.inl ⟨rfl, rfl⟩, wl_aks hOA'⟩)
            try (refine ⟨weakS_mk [some 0, some 6] rfl ?_ (by simp -dsimp -implicitDefEqProofs (disch := omega) [go_sem, -List.getD_eq_getElem?_getD, ite_yes, ht, e4])⟩; simp -dsimp -implicitDefEqProofs (disch := omega) [go_sem, -List.getD_eq_getElem?_getD, ite_yes, ht, hlt, hlti, hof, x1, n4, n5]; rw [← ef]; exact ⟨.inl ⟨rfl, rfl⟩, wl_aks hOA'⟩)
          · simp -dsimp -implicitDefEqProofs (disch := omega) [go_sem, -List.getD_eq_getElem?_getD, ite_yes, ht, hlt, hlti, hof, x1, n4, n5]
            first | refine AAt.of (by first | exact SubH.refl | exact SubH.app | exact SubH.both (by simp [subL])) ?_ | (refine ⟨?_, AAt.of (by first | exact SubH.refl | exact SubH.app | exact SubH.both (by simp [subL])) ?_⟩; · omega)
            refine AAny.one 3 4 (by kernel_rfl) (by kernel_rfl) (by kernel_rfl) ?_
            simp -dsimp -implicitDefEqProofs (disch := omega) [go_sem, -List.getD_eq_getElem?_getD, ite_yes, ht, hlt, hlti, hof, x1, n4, n5]
            first | refine AAt.of (by first | exact SubH.refl | exact SubH.app | exact SubH.both (by simp [subL])) ?_ | (refine ⟨?_, AAt.of (by first | exact SubH.refl | exact SubH.app | exact SubH.both (by simp [subL])) ?_⟩; · omega)
            refine AAny.one 2 10 (by kernel_rfl) (by kernel_rfl) (by kernel_rfl) ?_
            simp -dsimp -implicitDefEqProofs (disch := omega) [go_sem, -List.getD_eq_getElem?_getD, ite_yes, ht, hlt, hlti, hof, x1, n4, n5]
            first | refine AAt.of (by first | exact SubH.refl | exact SubH.app | exact SubH.both (by simp [subL])) ?_ | (refine ⟨?_, AAt.of (by first | exact SubH.refl | exact SubH.app | exact SubH.both (by simp [subL])) ?_⟩; · omega)
            refine AAny.one 1 14 (by kernel_rfl) (by kernel_rfl) (by kernel_rfl) ?_
            simp -dsimp -implicitDefEqProofs (disch := omega) [go_sem, -List.getD_eq_getElem?_getD, ite_yes, ht, hlt, hlti, hof, x1, n4, n5]
            first | refine AAt.of (by first | exact SubH.refl | exact SubH.app | exact SubH.both (by simp [subL])) ?_ | (refine ⟨?_, AAt.of (by first | exact SubH.refl | exact SubH.app | exact SubH.both (by simp [subL])) ?_⟩; · omega)
            refine AAny.takes (fuel := 0) (by kernel_rfl) (by kernel_rfl) [15] (by kernel_rfl) (by kernel_rfl) ?_
            simp -dsimp -implicitDefEqProofs (disch := omega) [go_sem, -List.getD_eq_getElem?_getD, ite_yes, ht, hlt, hlti, hof, x1, n4, n5]
            refine AAny.done (by kernel_rfl) ?_
            simp -dsimp -implicitDefEqProofs (disch := omega) [go_sem, -List.getD_eq_getElem?_getD, ite_yes, ht, hlt, hlti, hof, x1, n4, n5]
            try (refine ⟨weakS_mk [some 0, some 5] rfl ?_ (by simp -dsimp -implicitDefEqProofs (disch := omega) [go_sem, -List.getD_eq_getElem?_getD, ite_yes, ht, e4])⟩; simp -dsimp -implicitDefEqProofs (disch := omega) [go_sem, -List.getD_eq_getElem?_getD, ite_yes, ht, hlt, hlti, hof, x1, n4, n5]; rw [← ef]; exact ⟨.inl ⟨rfl, rfl⟩, wl_aks hOA'⟩)
            try (refine ⟨weakS_mk [some 0, some 6] rfl ?_ (by simp -dsimp -implicitDefEqProofs (disch := omega) [go_sem, -List.getD_eq_getElem?_getD, ite_yes, ht, e4])⟩; simp -dsimp -implicitDefEqProofs (disch := omega) [go_sem, -List.getD_eq_getElem?_getD, ite_yes, ht, hlt, hlti, hof, x1, n4, n5]; rw [← ef]; exact ⟨.inl ⟨rfl, rfl⟩, wl_aks hOA'⟩)
        · simp -dsimp -implicitDefEqProofs (disch := omega) [go_sem, -List.getD_eq_getElem?_getD, ite_yes, ht, hlt, hlti, hof, x1, n4, n5]
          first | refine AAt.of (by first | exact SubH.refl | exact SubH.app | exact SubH.both (by simp [subL])) ?_ | (refine ⟨?_, AAt.of (by first | exact SubH.refl | exact SubH.app | exact SubH.both (by simp [subL])) ?_⟩; · omega)
          refine AAny.one 4 0 (by kernel_rfl) (by kernel_rfl) (by kernel_rfl) ?_
          simp -dsimp -implicitDefEqProofs (disch := omega) [go_sem, -List.getD_eq_getElem?_getD, ite_yes, ht, hlt, hlti, hof, x1, n4, n5]
          first | refine AAt.of (by first | exact SubH.refl | exact SubH.app | exact SubH.both (by simp [subL])) ?_ | (refine ⟨?_, AAt.of (by first | exact SubH.refl | exact SubH.app | exact SubH.both (by simp [subL])) ?_⟩; · omega)
          refine AAny.one 3 4 (by kernel_rfl) (by kernel_rfl) (by kernel_rfl) ?_
          simp -dsimp -implicitDefEqProofs (disch := omega) [go_sem, -List.getD_eq_getElem?_getD, ite_yes, ht, hlt, hlti, hof, x1, n4, n5]
          first | refine AAt.of (by first | exact SubH.refl | exact SubH.app | exact SubH.both (by simp [subL])) ?_ | (refine ⟨?_, AAt.of (by first | exact SubH.refl | exact SubH.app | exact SubH.both (by simp [subL])) ?_⟩; · omega)
          refine AAny.one 2 10 (by kernel_rfl) (by kernel_rfl) (by kernel_rfl) ?_
          simp -dsimp -implicitDefEqProofs (disch := omega) [go_sem, -List.getD_eq_getElem?_getD, ite_yes, ht, hlt, hlti, hof, x1, n4, n5]
          first | refine AAt.of (by first | exact SubH.refl | exact SubH.app | exact SubH.both (by simp [subL])) ?_ | (refine ⟨?_, AAt.of (by first | exact SubH.refl | exact SubH.app | exact SubH.both (by simp [subL])) ?_⟩; · omega)
          refine AAny.one 1 14 (by kernel_rfl) (by kernel_rfl) (by kernel_rfl) ?_
          simp -dsimp -implicitDefEqProofs (disch := omega) [go_sem, -List.getD_eq_getElem?_getD, ite_yes, ht, hlt, hlti, hof, x1, n4, n5]
          first | refine AAt.of (by first | exact SubH.refl | exact SubH.app | exact SubH.both (by simp [subL])) ?_ | (refine ⟨?_, AAt.of (by first | exact SubH.refl | exact SubH.app | exact SubH.both (by simp [subL])) ?_⟩; · omega)
          refine AAny.takes (fuel := 0) (by kernel_rfl) (by kernel_rfl) [15] (by kernel_rfl) (by kernel_rfl) ?_
          simp -dsimp -implicitDefEqProofs (disch := omega) [go_sem, -List.getD_eq_getElem?_getD, ite_yes, ht, hlt, hlti, hof, x1, n4, n5]
          refine AAny.done (by kernel_rfl) ?_
          simp -dsimp -implicitDefEqProofs (disch := omega) [go_sem, -List.getD_eq_getElem?_getD, ite_yes, ht, hlt, hlti, hof, x1, n4, n5]
          try (refine ⟨weakS_mk [some 0, some 5] rfl ?_ (by simp -dsimp -implicitDefEqProofs (disch := omega) [go_sem, -List.getD_eq_getElem?_getD, ite_yes, ht, e4])⟩; simp -dsimp -implicitDefEqProofs (disch := omega) [go_sem, -List.getD_eq_getElem?_getD, ite_yes, ht, hlt, hlti, hof, x1, n4, n5]; rw [← ef]; exact ⟨.inl ⟨rfl, rfl⟩, wl_aks hOA'⟩)
          try (refine ⟨weakS_mk [some 0, some 6] rfl ?_ (by simp -dsimp -implicitDefEqProofs (disch := omega) [go_sem, -List.getD_eq_getElem?_getD, ite_yes, ht, e4])⟩; simp -dsimp -implicitDefEqProofs (disch := omega) [go_sem, -List.getD_eq_getElem?_getD, ite_yes, ht, hlt, hlti, hof, x1, n4, n5]; rw [← ef]; exact ⟨.inl ⟨rfl, rfl⟩, wl_aks hOA'⟩)
    simp -dsimp -implicitDefEqProofs (disch := omega) [go_sem, -List.getD_eq_getElem?_getD, ite_yes]
    refine LoopEnd.of (i + 1) (by omega) (by omega) (weakS_mk [some 0, some 1] rfl ?_ (by simp -dsimp -implicitDefEqProofs (disch := omega) [go_sem, -List.getD_eq_getElem?_getD, ite_yes, ht]))
    rw [hO']
    simp -dsimp -implicitDefEqProofs (disch := omega) [go_sem, -List.getD_eq_getElem?_getD, ite_yes]
    exact ⟨.inl ⟨rfl, rfl⟩, wl_aks hOA'⟩
  | succ k =>
  have hkl : k < O.length := by omega
  have fc := flatMap_cells akE 3 (fun _ => rfl) akD O k hkl
  have hym : O.getD k akD ∈ R := hOm _ (by rw [List.getD_eq_getElem?_getD, List.getElem?_eq_getElem hkl]; exact List.getElem_mem _)
  have hp : posK moreK O x (k + 1) = if moreK x (O.getD k akD) then posK moreK O x k else k + 1 := rfl
  generalize O.getD k akD = y at *
  simp only [akE] at fc
  have hk1 : k < i := by omega
  have hk1i : (k : Int) < (i : Int) := by omega
  have hk3 : k * 3 + 3 ≤ i * 3 := by omega
  have A := fun L => l17More_A x y (hAr x hxm) (hAr y hym) (roH (H ++ L)) (hS.ns x hxm).1.app.ro (hS.ns y hym).1.app.ro
  have hyA := hA y hym
  simp -dsimp -implicitDefEqProofs (disch := omega) [go_sem, -List.getD_eq_getElem?_getD, ite_yes, ht]
  refine ADraw.quiet (by kernel_rfl) (by kernel_rfl) (by kernel_rfl) ?_
  simp -dsimp -implicitDefEqProofs (disch := omega) [go_sem, -List.getD_eq_getElem?_getD, ite_yes, ht, hlt, hlti, hof, x1, fc, hk1, hk1i, hk3]
  refine ACallQ.of (A _) rfl ?_
  cases hc : moreK x y
  rotate_left
  · rw [hc, if_pos rfl] at hp
    simp -dsimp -implicitDefEqProofs (disch := omega) [go_sem, -List.getD_eq_getElem?_getD, ite_yes, ht]
    refine LoopEnd.of k ⟨by omega, hpos.trans hp⟩ (by omega) (weakS_mk [some 0, some 1] rfl ?_ (by simp -dsimp -implicitDefEqProofs (disch := omega) [go_sem, -List.getD_eq_getElem?_getD, ite_yes, ht]))
    simp -dsimp -implicitDefEqProofs (disch := omega) [go_sem, -List.getD_eq_getElem?_getD, ite_yes]
    exact ⟨.inl ⟨rfl, rfl⟩, wl_aks hOA⟩
  rw [hc] at hp
  simp only [Bool.false_eq_true, if_false] at hp
  have hpk : posK moreK O x i = k + 1 := hpos.trans hp
  rw [hpk] at eO
  have n1 := ak_take O (k + 1)
  have n2 := ak_drop O (k + 1)
  have n3 : (List.flatMap akE (List.take (k + 1) O)).length = (k + 1) * 3 := by rw [akE_length, List.length_take]; omega
  have n4 : (List.flatMap akE (List.drop (k + 1) O)).length = (i - (k + 1)) * 3 := by rw [akE_length, List.length_drop]; omega
  have n5 : List.take ((i - (k + 1)) * 3) (List.flatMap akE (List.drop (k + 1) O)) = List.flatMap akE (List.drop (k + 1) O) := List.take_of_length_le (by omega)
  have e4 : k + 1 + 1 + (i - (k + 1)) = i + 1 := by omega
  have ef : O'.flatMap akE = (O.take (k + 1)).flatMap akE ++ (akE x ++ (O.drop (k + 1)).flatMap akE) := by rw [eO]; simp
  simp only [akE, List.cons_append, List.nil_append] at ef
  have hki : ((k : Int) + 1) ≤ (i : Int) := by omega
  have hki2 : ((k : Int) + 1).toNat = k + 1 := by omega
  have hkn : k + 1 ≤ i := by omega
  simp -dsimp -implicitDefEqProofs (disch := omega) [go_sem, -List.getD_eq_getElem?_getD, ite_yes, ht, hlt, hlti, hof]
  refine ADraw.mid [(0, .slice (some ⟨t, 0, none⟩) R.length c), (4, .slice (some ⟨H.length, 0, none⟩) 0 0), (5, .slice (some ⟨H.length + 1, 0, none⟩) (i + 1) 0), (6, .int .i64 i)] (H ++ [some ⟨[], true, 3, 1⟩, some ⟨O'.flatMap akE, true, 39, 3⟩]) ?_ ?_
  · skip
    refine ADraw.any (H ++ [some ⟨[], true, 3, 1⟩, some ⟨O.flatMap akE, true, 39, 3⟩]) (by kernel_rfl) (by first | exact SubH.refl | exact SubH.app | exact SubH.both (by simp [subL])) ?_
    refine AAny.takes (fuel := 7) (by kernel_rfl) (by kernel_rfl) [1, 2, 3, 5, 6, 7, 11, 12, 13] (by kernel_rfl) (by kernel_rfl) ?_
    simp -dsimp -implicitDefEqProofs (disch := omega) [go_sem, -List.getD_eq_getElem?_getD, ite_yes, ht, hlt, hlti, hof, x1, hki, hki2, hkn, n1, n2, n3, n4, n5]
    refine AAny.two 6 0 8 (by kernel_rfl) (by kernel_rfl) (by kernel_rfl) ?_ ?_
    · simp -dsimp -implicitDefEqProofs (disch := omega) [go_sem, -List.getD_eq_getElem?_getD, ite_yes, ht, hlt, hlti, hof, x1, hki, hki2, hkn, n1, n2, n3, n4, n5]
      first | refine AAt.of (by first | exact SubH.refl | exact SubH.app | exact SubH.both (by simp [subL])) ?_ | (refine ⟨?_, AAt.of (by first | exact SubH.refl | exact SubH.app | exact SubH.both (by simp [subL])) ?_⟩; · omega)
      refine AAny.two 5 4 8 (by kernel_rfl) (by kernel_rfl) (by kernel_rfl) ?_ ?_
      · simp -dsimp -implicitDefEqProofs (disch := omega) [go_sem, -List.getD_eq_getElem?_getD, ite_yes, ht, hlt, hlti, hof, x1, hki, hki2, hkn, n1, n2, n3, n4, n5]
        first | refine AAt.of (by first | exact SubH.refl | exact SubH.app | exact SubH.both (by simp [subL])) ?_ | (refine ⟨?_, AAt.of (by first | exact SubH.refl | exact SubH.app | exact SubH.both (by simp [subL])) ?_⟩; · omega)
        refine AAny.one 4 8 (by kernel_rfl) (by kernel_rfl) (by kernel_rfl) ?_
        simp -dsimp -implicitDefEqProofs (disch := omega) [go_sem, -List.getD_eq_getElem?_getD, ite_yes, ht, hlt, hlti, hof, x1, hki, hki2, hkn, n1, n2, n3, n4, n5]
        first | refine AAt.of (by first | exact SubH.refl | exact SubH.app | exact SubH.both (by simp [subL])) ?_ | (refine ⟨?_, AAt.of (by first | exact SubH.refl | exact SubH.app | exact SubH.both (by simp [subL])) ?_⟩; · omega)
        refine AAny.one 3 9 (by kernel_rfl) (by kernel_rfl) (by kernel_rfl) ?_
        simp -dsimp -implicitDefEqProofs (disch := omega) [go_sem, -List.getD_eq_getElem?_getD, ite_yes, ht, hlt, hlti, hof, x1, hki, hki2, hkn, n1, n2, n3, n4, n5]
        first | refine AAt.of (by first | exact SubH.refl | exact SubH.app | exact SubH.both (by simp [subL])) ?_ | (refine ⟨?_, AAt.of (by first | exact SubH.refl | exact SubH.app | exact SubH.both (by simp [subL])) ?_⟩; · omega)
        refine AAny.one 2 10 (by kernel_rfl) (by kernel_rfl) (by kernel_rfl) ?_
        simp -dsimp -implicitDefEqProofs (disch := omega) [go_sem, -List.getD_eq_getElem?_getD, ite_yes, ht, hlt, hlti, hof, x1, hki, hki2, hkn, n1, n2, n3, n4, n5]
        first | refine AAt.of (by first | exact SubH.refl | exact SubH.app | exact SubH.both (by simp [subL])) ?_ | (refine ⟨?_, AAt.of (by first | exact SubH.refl | exact SubH.app | exact SubH.both (by simp [subL])) ?_⟩; · omega)
        refine AAny.one 1 14 (by kernel_rfl) (by kernel_rfl) (by kernel_rfl) ?_
        simp -dsimp -implicitDefEqProofs (disch := omega) [go_sem, -List.getD_eq_getElem?_getD, ite_yes, ht, hlt, hlti, hof, x1, hki, hki2, hkn, n1, n2, n3, n4, n5]
        first | refine AAt.of (by first | exact SubH.refl | exact SubH.app | exact SubH.both (by simp [subL])) ?_ | (refine ⟨?_, AAt.of (by first | exact SubH.refl | exact SubH.app | exact SubH.both (by simp [subL])) ?_⟩; · omega)
        refine AAny.takes (fuel := 0) (by kernel_rfl) (by kernel_rfl) [15] (by kernel_rfl) (by kernel_rfl) ?_
        simp -dsimp -implicitDefEqProofs (disch := omega) [go_sem, -List.getD_eq_getElem?_getD, ite_yes, ht, hlt, hlti, hof, x1, hki, hki2, hkn, n1, n2, n3, n4, n5]
        refine AAny.done (by kernel_rfl) ?_
        simp -dsimp -implicitDefEqProofs (disch := omega) [go_sem, -List.getD_eq_getElem?_getD, ite_yes, ht, hlt, hlti, hof, x1, hki, hki2, hkn, n1, n2, n3, n4, n5]
        try (refine ⟨weakS_mk [some 0, some 5] rfl ?_ (by simp -dsimp -implicitDefEqProofs (disch := omega) [go_sem, -List.getD_eq_getElem?_getD, ite_yes, ht, e4])⟩; simp -dsimp -implicitDefEqProofs (disch := omega) [go_sem, -List.getD_eq_getElem?_getD, ite_yes, ht, hlt, hlti, hof, x1, n1, n2, n3, n4, n5]; rw [← ef]; exact ⟨.inl ⟨rfl, rfl⟩, wl_aks hOA'⟩)
        try (refine ⟨weakS_mk [some 0, some 6] rfl ?_ (by simp -dsimp -implicitDefEqProofs (disch := omega) [go_sem, -List.getD_eq_getElem?_getD, ite_yes, ht, e4])⟩; simp -dsimp -implicitDefEqProofs (disch := omega) [go_sem, -List.getD_eq_getElem?_getD, ite_yes, ht, hlt, hlti, hof, x1, n1, n2, n3, n4, n5]; rw [← ef]; exact ⟨.inl ⟨rfl, rfl⟩, wl_aks hOA'⟩)
      · simp -dsimp -implicitDefEqProofs (disch := omega) [go_sem, -List.getD_eq_getElem?_getD, ite_yes, ht, hlt, hlti, hof, x1, hki, hki2, hkn, n1, n2, n3, n4, n5]
        first | refine AAt.of (by first | exact SubH.refl | exact SubH.app | exact SubH.both (by simp [subL])) ?_ | (refine ⟨?_, AAt.of (by first | exact SubH.refl | exact SubH.app | exact SubH.both (by simp [subL])) ?_⟩; · omega)
        refine AAny.two 4 4 9 (by kernel_rfl) (by kernel_rfl) (by kernel_rfl) ?_ ?_
        · simp -dsimp -implicitDefEqProofs (disch := omega) [go_sem, -List.getD_eq_getElem?_getD, ite_yes, ht, hlt, hlti, hof, x1, hki, hki2, hkn, n1, n2, n3, n4, n5]
          first | refine AAt.of (by first | exact SubH.refl | exact SubH.app | exact SubH.both (by simp [subL])) ?_ | (refine ⟨?_, AAt.of (by first | exact SubH.refl | exact SubH.app | exact SubH.both (by simp [subL])) ?_⟩; · omega)
          refine AAny.one 3 9 (by kernel_rfl) (by kernel_rfl) (by kernel_rfl) ?_
          simp -dsimp -implicitDefEqProofs (disch := omega) [go_sem, -List.getD_eq_getElem?_getD, ite_yes, ht, hlt, hlti, hof, x1, hki, hki2, hkn, n1, n2, n3, n4, n5]
          first | refine AAt.of (by first | exact SubH.refl | exact SubH.app | exact SubH.both (by simp [subL])) ?_ | (refine ⟨?_, AAt.of (by first | exact SubH.refl | exact SubH.app | exact SubH.both (by simp [subL])) ?_⟩; · omega)
          refine AAny.one 2 10 (by kernel_rfl) (by kernel_rfl) (by kernel_rfl) ?_
          simp -dsimp -implicitDefEqProofs (disch := omega) [go_sem, -List.getD_eq_getElem?_getD, ite_yes, ht, hlt, hlti, hof, x1, hki, hki2, hkn, n1, n2, n3, n4, n5]
          first | refine AAt.of (by first | exact SubH.refl | exact SubH.app | exact SubH.both (by simp [subL])) ?_ | (refine ⟨?_, AAt.of (by first | exact SubH.refl | exact SubH.app | exact SubH.both (by simp [subL])) ?_⟩; · omega)
          refine AAny.one 1 14 (by kernel_rfl) (by kernel_rfl) (by kernel_rfl) ?_
          simp -dsimp -implicitDefEqProofs (disch := omega) [go_sem, -List.getD_eq_getElem?_getD, ite_yes, ht, hlt, hlti, hof, x1, hki, hki2, hkn, n1, n2, n3, n4, n5]
          first | refine AAt.of (by first | exact SubH.refl | exact SubH.app | exact SubH.both (by simp [subL])) ?_ | (refine ⟨?_, AAt.of (by first | exact SubH.refl | exact SubH.app | exact SubH.both (by simp [subL])) ?_⟩; · omega)
          refine AAny.takes (fuel := 0) (by kernel_rfl) (by kernel_rfl) [15] (by kernel_rfl) (by kernel_rfl) ?_
          simp -dsimp -implicitDefEqProofs (disch := omega) [go_sem, -List.getD_eq_getElem?_getD, ite_yes, ht, hlt, hlti, hof, x1, hki, hki2, hkn, n1, n2, n3, n4, n5]
          refine AAny.done (by kernel_rfl) ?_
          simp -dsimp -implicitDefEqProofs (disch := omega) [go_sem, -List.getD_eq_getElem?_getD, ite_yes, ht, hlt, hlti, hof, x1, hki, hki2, hkn, n1, n2, n3, n4, n5]
          try (refine ⟨weakS_mk [some 0, some 5] rfl ?_ (by simp -dsimp -implicitDefEqProofs (disch := omega) [go_sem, -List.getD_eq_getElem?_getD, ite_yes, ht, e4])⟩; simp -dsimp -implicitDefEqProofs (disch := omega) [go_sem, -List.getD_eq_getElem?_getD, ite_yes, ht, hlt, hlti, hof, x1, n1, n2, n3, n4, n5]; rw [← ef]; exact ⟨.inl ⟨rfl, rfl⟩, wl_aks hOA'⟩)
          try (refine ⟨weakS_mk [some 0, some 6] rfl ?_ (by simp -dsimp -implicitDefEqProofs (disch := omega) [go_sem, -List.getD_eq_getElem?_getD, ite_yes, ht, e4])⟩; simp -dsimp -implicitDefEqProofs (disch := omega) [go_sem, -List.getD_eq_getElem?_getD, ite_yes, ht, hlt, hlti, hof, x1, n1, n2, n3, n4, n5]; rw [← ef]; exact ⟨.inl ⟨rfl, rfl⟩, wl_aks hOA'⟩)
        · simp -dsimp -implicitDefEqProofs (disch := omega) [go_sem, -List.getD_eq_getElem?_getD, ite_yes, ht, hlt, hlti, hof, x1, hki, hki2, hkn, n1, n2, n3, n4, n5]
          first | refine AAt.of (by first | exact SubH.refl | exact SubH.app | exact SubH.both (by simp [subL])) ?_ | (refine ⟨?_, AAt.of (by first | exact SubH.refl | exact SubH.app | exact SubH.both (by simp [subL])) ?_⟩; · omega)
          refine AAny.one 3 4 (by kernel_rfl) (by kernel_rfl) (by kernel_rfl) ?_
          simp -dsimp -implicitDefEqProofs (disch := omega) [go_sem, -List.getD_eq_getElem?_getD, ite_yes, ht, hlt, hlti, hof, x1, hki, hki2, hkn, n1, n2, n3, n4, n5]
          first | refine AAt.of (by first | exact SubH.refl | exact SubH.app | exact SubH.both (by simp [subL])) ?_ | (refine ⟨?_, AAt.of (by first | exact SubH.refl | exact SubH.app | exact SubH.both (by simp [subL])) ?_⟩; · omega)
          refine AAny.one 2 10 (by kernel_rfl) (by kernel_rfl) (by kernel_rfl) ?_
          simp -dsimp -implicitDefEqProofs (disch := omega) [go_sem, -List.getD_eq_getElem?_getD, ite_yes, ht, hlt, hlti, hof, x1, hki, hki2, hkn, n1, n2, n3, n4, n5]
          first | refine AAt.of (by first | exact SubH.refl | exact SubH.app | exact SubH.both (by simp [subL])) ?_ | (refine ⟨?_, AAt.of (by first | exact SubH.refl | exact SubH.app | exact SubH.both (by simp [subL])) ?_⟩; · omega)
          refine AAny.one 1 14 (by kernel_rfl) (by kernel_rfl) (by kernel_rfl) ?_
          simp -dsimp -implicitDefEqProofs (disch := omega) [go_sem, -List.getD_eq_getElem?_getD, ite_yes, ht, hlt, hlti, hof, x1, hki, hki2, hkn, n1, n2, n3, n4, n5]
          first | refine AAt.of (by first | exact SubH.refl | exact SubH.app | exact SubH.both (by simp [subL])) ?_ | (refine ⟨?_, AAt.of (by first | exact SubH.refl | exact SubH.app | exact SubH.both (by simp [subL])) ?_⟩; · omega)
          refine AAny.takes (fuel := 0) (by kernel_rfl) (by kernel_rfl) [15] (by kernel_rfl) (by kernel_rfl) ?_
          simp -dsimp -implicitDefEqProofs (disch := omega) [go_sem, -List.getD_eq_getElem?_getD, ite_yes, ht, hlt, hlti, hof, x1, hki, hki2, hkn, n1, n2, n3, n4, n5]
          refine AAny.done (by kernel_rfl) ?_
          simp -dsimp -implicitDefEqProofs (disch := omega) [go_sem, -List.getD_eq_getElem?_getD, ite_yes, ht, hlt, hlti, hof, x1, hki, hki2, hkn, n1, n2, n3, n4, n5]
          try (refine ⟨weakS_mk [some 0, some 5] rfl ?_ (by simp -dsimp -implicitDefEqProofs (disch := omega) [go_sem, -List.getD_eq_getElem?_getD, ite_yes, ht, e4])⟩; simp -dsimp -implicitDefEqProofs (disch := omega) [go_sem, -List.getD_eq_getElem?_getD, ite_yes, ht, hlt, hlti, hof, x1, n1, n2, n3, n4, n5]; rw [← ef]; exact ⟨.inl ⟨rfl, rfl⟩, wl_aks hOA'⟩)
          try (refine ⟨weakS_mk [some 0, some 6] rfl ?_ (by simp -dsimp -implicitDefEqProofs (disch := omega) [go_sem, -List.getD_eq_getElem?_getD, ite_yes, ht, e4])⟩; simp -dsimp -implicitDefEqProofs (disch := omega) [go_sem, -List.getD_eq_getElem?_getD, ite_yes, ht, hlt, hlti, hof, x1, n1, n2, n3, n4, n5]; rw [← ef]; exact ⟨.inl ⟨rfl, rfl⟩, wl_aks hOA'⟩)
    · simp -dsimp -implicitDefEqProofs (disch := omega) [go_sem, -List.getD_eq_getElem?_getD, ite_yes, ht, hlt, hlti, hof, x1, hki, hki2, hkn, n1, n2, n3, n4, n5]
      first | refine AAt.of (by first | exact SubH.refl | exact SubH.app | exact SubH.both (by simp [subL])) ?_ | (refine ⟨?_, AAt.of (by first | exact SubH.refl | exact SubH.app | exact SubH.both (by simp [subL])) ?_⟩; · omega)
      refine AAny.two 5 0 9 (by kernel_rfl) (by kernel_rfl) (by kernel_rfl) ?_ ?_
      · simp -dsimp -implicitDefEqProofs (disch := omega) [go_sem, -List.getD_eq_getElem?_getD, ite_yes, ht, hlt, hlti, hof, x1, hki, hki2, hkn, n1, n2, n3, n4, n5]
        first | refine AAt.of (by first | exact SubH.refl | exact SubH.app | exact SubH.both (by simp [subL])) ?_ | (refine ⟨?_, AAt.of (by first | exact SubH.refl | exact SubH.app | exact SubH.both (by simp [subL])) ?_⟩; · omega)
        refine AAny.two 4 4 9 (by kernel_rfl) (by kernel_rfl) (by kernel_rfl) ?_ ?_
        · simp -dsimp -implicitDefEqProofs (disch := omega) [go_sem, -List.getD_eq_getElem?_getD, ite_yes, ht, hlt, hlti, hof, x1, hki, hki2, hkn, n1, n2, n3, n4, n5]
          first | refine AAt.of (by first | exact SubH.refl | exact SubH.app | exact SubH.both (by simp [subL])) ?_ | (refine ⟨?_, AAt.of (by first | exact SubH.refl | exact SubH.app | exact SubH.both (by simp [subL])) ?_⟩; · omega)
          refine AAny.one 3 9 (by kernel_rfl) (by kernel_rfl) (by kernel_rfl) ?_
          simp -dsimp -implicitDefEqProofs (disch := omega) [go_sem, -List.getD_eq_getElem?_getD, ite_yes, ht, hlt, hlti, hof, x1, hki, hki2, hkn, n1, n2, n3, n4, n5]
          first | refine AAt.of (by first | exact SubH.refl | exact SubH.app | exact SubH.both (by simp [subL])) ?_ | (refine ⟨?_, AAt.of (by first | exact SubH.refl | exact SubH.app | exact SubH.both (by simp [subL])) ?_⟩; · omega)
          refine AAny.one 2 10 (by kernel_rfl) (by kernel_rfl) (by kernel_rfl) ?_
          simp -dsimp -implicitDefEqProofs (disch := omega) [go_sem, -List.getD_eq_getElem?_getD, ite_yes, ht, hlt, hlti, hof, x1, hki, hki2, hkn, n1, n2, n3, n4, n5]
          first | refine AAt.of (by first | exact SubH.refl | exact SubH.app | exact SubH.both (by simp [subL])) ?_ | (refine ⟨?_, AAt.of (by first | exact SubH.refl | exact SubH.app | exact SubH.both (by simp [subL])) ?_⟩; · omega)
          refine AAny.one 1 14 (by kernel_rfl) (by kernel_rfl) (by kernel_rfl) ?_
          simp -dsimp -implicitDefEqProofs (disch := omega) [go_sem, -List.getD_eq_getElem?_getD, ite_yes, ht, hlt, hlti, hof, x1, hki, hki2, hkn, n1, n2, n3, n4, n5]
          first | refine AAt.of (by first | exact SubH.refl | exact SubH.app | exact SubH.both (by simp [subL])) ?_ | (refine ⟨?_, AAt.of (by first | exact SubH.refl | exact SubH.app | exact SubH.both (by simp [subL])) ?_⟩; · omega)
          refine AAny.takes (fuel := 0) (by kernel_rfl) (by kernel_rfl) [15] (by kernel_rfl) (by kernel_rfl) ?_
          simp -dsimp -implicitDefEqProofs (disch := omega) [go_sem, -List.getD_eq_getElem?_getD, ite_yes, ht, hlt, hlti, hof, x1, hki, hki2, hkn, n1, n2, n3, n4, n5]
          refine AAny.done (by kernel_rfl) ?_
          simp -dsimp -implicitDefEqProofs (disch := omega) [go_sem, -List.getD_eq_getElem?_getD, ite_yes, ht, hlt, hlti, hof, x1, hki, hki2, hkn, n1, n2, n3, n4, n5]
          try (refine ⟨weakS_mk [some 0, some 5] rfl ?_ (by simp -dsimp -implicitDefEqProofs (disch := omega) [go_sem, -List.getD_eq_getElem?_getD, ite_yes, ht, e4])⟩; simp -dsimp -implicitDefEqProofs (disch := omega) [go_sem, -List.getD_eq_getElem?_getD, ite_yes, ht, hlt, hlti, hof, x1, n1, n2, n3, n4, n5]; rw [← ef]; exact ⟨.inl ⟨rfl, rfl⟩, wl_aks hOA'⟩)
          try (refine ⟨weakS_mk [some 0, some 6] rfl ?_ (by simp -dsimp -implicitDefEqProofs (disch := omega) [go_sem, -List.getD_eq_getElem?_getD, ite_yes, ht, e4])⟩; simp -dsimp -implicitDefEqProofs (disch := omega) [go_sem, -List.getD_eq_getElem?_getD, ite_yes, ht, hlt, hlti, hof, x1, n1, n2, n3, n4, n5]; rw [← ef]; exact ⟨.inl ⟨rfl, rfl⟩, wl_aks hOA'⟩)
        · simp -dsimp -implicitDefEqProofs (disch := omega) [go_sem, -List.getD_eq_getElem?_getD, ite_yes, ht, hlt, hlti, hof, x1, hki, hki2, hkn, n1, n2, n3, n4, n5]
          first | refine AAt.of (by first | exact SubH.refl | exact SubH.app | exact SubH.both (by simp [subL])) ?_ | (refine ⟨?_, AAt.of (by first | exact SubH.refl | exact SubH.app | exact SubH.both (by simp [subL])) ?_⟩; · omega)
          refine AAny.one 3 4 (by kernel_rfl) (by kernel_rfl) (by kernel_rfl) ?_
          simp -dsimp -implicitDefEqProofs (disch := omega) [go_sem, -List.getD_eq_getElem?_getD, ite_yes, ht, hlt, hlti, hof, x1, hki, hki2, hkn, n1, n2, n3, n4, n5]
          first | refine AAt.of (by first | exact SubH.refl | exact SubH.app | exact SubH.both (by simp [subL])) ?_ | (refine ⟨?_, AAt.of (by first | exact SubH.refl | exact SubH.app | exact SubH.both (by simp [subL])) ?_⟩; · omega)
          refine AAny.one 2 10 (by kernel_rfl) (by kernel_rfl) (by kernel_rfl) ?_
          simp -dsimp -implicitDefEqProofs (disch := omega) [go_sem, -List.getD_eq_getElem?_getD, ite_yes, ht, hlt, hlti, hof, x1, hki, hki2, hkn, n1, n2, n3, n4, n5]
          first | refine AAt.of (by first | exact SubH.refl | exact SubH.app | exact SubH.both (by simp [subL])) ?_ | (refine ⟨?_, AAt.of (by first | exact SubH.refl | exact SubH.app | exact SubH.both (by simp [subL])) ?_⟩; · omega)
          refine AAny.one 1 14 (by kernel_rfl) (by kernel_rfl) (by kernel_rfl) ?_
          simp -dsimp -implicitDefEqProofs (disch := omega) [go_sem, -List.getD_eq_getElem?_getD, ite_yes, ht, hlt, hlti, hof, x1, hki, hki2, hkn, n1, n2, n3, n4, n5]
          first | refine AAt.of (by first | exact SubH.refl | exact SubH.app | exact SubH.both (by simp [subL])) ?_ | (refine ⟨?_, AAt.of (by first | exact SubH.refl | exact SubH.app | exact SubH.both (by simp [subL])) ?_⟩; · omega)
          refine AAny.takes (fuel := 0) (by kernel_rfl) (by kernel_rfl) [15] (by kernel_rfl) (by kernel_rfl) ?_
          simp -dsimp -implicitDefEqProofs (disch := omega) [go_sem, -List.getD_eq_getElem?_getD, ite_yes, ht, hlt, hlti, hof, x1, hki, hki2, hkn, n1, n2, n3, n4, n5]
          refine AAny.done (by kernel_rfl) ?_
          simp -dsimp -implicitDefEqProofs (disch := omega) [go_sem, -List.getD_eq_getElem?_getD, ite_yes, ht, hlt, hlti, hof, x1, hki, hki2, hkn, n1, n2, n3, n4, n5]
          try (refine ⟨weakS_mk [some 0, some 5] rfl ?_ (by simp -dsimp -implicitDefEqProofs (disch := omega) [go_sem, -List.getD_eq_getElem?_getD, ite_yes, ht, e4])⟩; simp -dsimp -implicitDefEqProofs (disch := omega) [go_sem, -List.getD_eq_getElem?_getD, ite_yes, ht, hlt, hlti, hof, x1, n1, n2, n3, n4, n5]; rw [← ef]; exact ⟨.inl ⟨rfl, rfl⟩, wl_aks hOA'⟩)
          try (refine ⟨weakS_mk [some 0, some 6] rfl ?_ (by simp -dsimp -implicitDefEqProofs (disch := omega) [go_sem, -List.getD_eq_getElem?_getD, ite_yes, ht, e4])⟩; simp -dsimp -implicitDefEqProofs (disch := omega) [go_sem, -List.getD_eq_getElem?_getD, ite_yes, ht, hlt, hlti, hof, x1, n1, n2, n3, n4, n5]; rw [← ef]; exact ⟨.inl ⟨rfl, rfl⟩, wl_aks hOA'⟩)
      · simp -dsimp -implicitDefEqProofs (disch := omega) [go_sem, -List.getD_eq_getElem?_getD, ite_yes, ht, hlt, hlti, hof, x1, hki, hki2, hkn, n1, n2, n3, n4, n5]
        first | refine AAt.of (by first | exact SubH.refl | exact SubH.app | exact SubH.both (by simp [subL])) ?_ | (refine ⟨?_, AAt.of (by first | exact SubH.refl | exact SubH.app | exact SubH.both (by simp [subL])) ?_⟩; · omega)
        refine AAny.one 4 0 (by kernel_rfl) (by kernel_rfl) (by kernel_rfl) ?_
        simp -dsimp -implicitDefEqProofs (disch := omega) [go_sem, -List.getD_eq_getElem?_getD, ite_yes, ht, hlt, hlti, hof, x1, hki, hki2, hkn, n1, n2, n3, n4, n5]
        first | refine AAt.of (by first | exact SubH.refl | exact SubH.app | exact SubH.both (by simp [subL])) ?_ | (refine ⟨?_, AAt.of (by first | exact SubH.refl | exact SubH.app | exact SubH.both (by simp [subL])) ?_⟩; · omega)
        refine AAny.one 3 4 (by kernel_rfl) (by kernel_rfl) (by kernel_rfl) ?_
        simp -dsimp -implicitDefEqProofs (disch := omega) [go_sem, -List.getD_eq_getElem?_getD, ite_yes, ht, hlt, hlti, hof, x1, hki, hki2, hkn, n1, n2, n3, n4, n5]
        first | refine AAt.of (by first | exact SubH.refl | exact SubH.app | exact SubH.both (by simp [subL])) ?_ | (refine ⟨?_, AAt.of (by first | exact SubH.refl | exact SubH.app | exact SubH.both (by simp [subL])) ?_⟩; · omega)
        refine AAny.one 2 10 (by kernel_rfl) (by kernel_rfl) (by kernel_rfl) ?_
        simp -dsimp -implicitDefEqProofs (disch := omega) [go_sem, -List.getD_eq_getElem?_getD, ite_yes, ht, hlt, hlti, hof, x1, hki, hki2, hkn, n1, n2, n3, n4, n5]
        first | refine AAt.of (by first | exact SubH.refl | exact SubH.app | exact SubH.both (by simp [subL])) ?_ | (refine ⟨?_, AAt.of (by first | exact SubH.refl | exact SubH.app | exact SubH.both (by simp [subL])) ?_⟩; · omega)
        refine AAny.one 1 14 (by kernel_rfl) (by kernel_rfl) (by kernel_rfl) ?_
        simp -dsimp -implicitDefEqProofs (disch := omega) [go_sem, -List.getD_eq_getElem?_getD, ite_yes, ht, hlt, hlti, hof, x1, hki, hki2, hkn, n1, n2, n3, n4, n5]
        first | refine AAt.of (by first | exact SubH.refl | exact SubH.app | exact SubH.both (by simp [subL])) ?_ | (refine ⟨?_, AAt.of (by first | exact SubH.refl | exact SubH.app | exact SubH.both (by simp [subL])) ?_⟩; · omega)
        refine AAny.takes (fuel := 0) (by kernel_rfl) (by kernel_rfl) [15] (by kernel_rfl) (by kernel_rfl) ?_
        simp -dsimp -implicitDefEqProofs (disch := omega) [go_sem, -List.getD_eq_getElem?_getD, ite_yes, ht, hlt, hlti, hof, x1, hki, hki2, hkn, n1, n2, n3, n4, n5]
        refine AAny.done (by kernel_rfl) ?_
        simp -dsimp -implicitDefEqProofs (disch := omega) [go_sem, -List.getD_eq_getElem?_getD, ite_yes, ht, hlt, hlti, hof, x1, hki, hki2, hkn, n1, n2, n3, n4, n5]
        try (refine ⟨weakS_mk [some 0, some 5] rfl ?_ (by simp -dsimp -implicitDefEqProofs (disch := omega) [go_sem, -List.getD_eq_getElem?_getD, ite_yes, ht, e4])⟩; simp -dsimp -implicitDefEqProofs (disch := omega) [go_sem, -List.getD_eq_getElem?_getD, ite_yes, ht, hlt, hlti, hof, x1, n1, n2, n3, n4, n5]; rw [← ef]; exact ⟨.inl ⟨rfl, rfl⟩, wl_aks hOA'⟩)
        try (refine ⟨weakS_mk [some 0, some 6] rfl ?_ (by simp -dsimp -implicitDefEqProofs (disch := omega) [go_sem, -List.getD_eq_getElem?_getD, ite_yes, ht, e4])⟩; simp -dsimp -implicitDefEqProofs (disch := omega) [go_sem, -List.getD_eq_getElem?_getD, ite_yes, ht, hlt, hlti, hof, x1, n1, n2, n3, n4, n5]; rw [← ef]; exact ⟨.inl ⟨rfl, rfl⟩, wl_aks hOA'⟩)
  simp -dsimp -implicitDefEqProofs (disch := omega) [go_sem, -List.getD_eq_getElem?_getD, ite_yes]
  refine LoopEnd.of (i + 1) (by omega) (by omega) (weakS_mk [some 0, some 1] rfl ?_ (by simp -dsimp -implicitDefEqProofs (disch := omega) [go_sem, -List.getD_eq_getElem?_getD, ite_yes, ht]))
  rw [hO']
  simp -dsimp -implicitDefEqProofs (disch := omega) [go_sem, -List.getD_eq_getElem?_getD, ite_yes]
  exact ⟨.inl ⟨rfl, rfl⟩, wl_aks hOA'⟩
end Go.Proofs.Ytdbneadblnejgaa
/- RankAreas: the law. -/
namespace Go.Proofs.Ytdbneadblnejgaa
open Go.Am
set_option linter.unusedVariables false
set_option linter.unusedSimpArgs false
set_option maxRecDepth 100000
set_option maxHeartbeats 8000000
theorem bare_getD (R : List Ak) (k : Nat) : (R.map bareK).getD k akD = bareK (R.getD k akD) := by
  simp only [List.getD_eq_getElem?_getD, List.getElem?_map]
  cases R[k]? <;> rfl
theorem rankIx_bare (R : List Ak) (i : Nat) : rankIx (R.map bareK) i = rankIx R i := by
  unfold rankIx
  rw [bare_getD, bare_getD]; rfl
theorem rankB_bare (R : List Ak) : rankB (R.map bareK) = rankB R := by
  unfold rankB
  rw [List.length_map]
  congr 1
  have : rankTo (R.map bareK) R.length ↔ rankTo R R.length := by
    unfold rankTo
    constructor
    · intro h i hi; rw [← rankIx_bare]; exact h i hi
    · intro h i hi; rw [rankIx_bare]; exact h i hi
  exact decide_eq_decide.2 this
theorem posK_bare (L : List Ak) (x : Ak) : ∀ k, posK moreK (L.map bareK) (bareK x) k = posK moreK L x k
  | 0 => rfl
  | k + 1 => by
    have e : moreK (bareK x) (bareK (L.getD k akD)) = moreK x (L.getD k akD) := rfl
    rw [posK, posK, bare_getD, posK_bare L x k, e]
theorem insK_bare (L : List Ak) (x : Ak) : insK moreK (L.map bareK) (bareK x) = (insK moreK L x).map bareK := by
  unfold insK
  rw [List.length_map, posK_bare, List.map_append, List.map_cons, List.map_take, List.map_drop]
theorem ordK_bare (R : List Ak) : ∀ i, ordK moreK (R.map bareK) i = (ordK moreK R i).map bareK
  | 0 => rfl
  | i + 1 => by rw [ordK, ordK, bare_getD, ordK_bare R i, insK_bare]
theorem rankN_bare (R : List Ak) : rankN (R.map bareK) = rankN R := by
  unfold rankN sortK idsTo
  rw [List.length_map, ordK_bare, ← List.map_take, List.map_map]
  rfl
theorem nsum_bare (R : List Ak) : ∀ k, nsum (R.map bareK) k = nsum R k
  | 0 => rfl
  | k + 1 => by rw [nsum, nsum, bare_getD, nsum_bare R k]
theorem rankB_of {D R : List Ak} (e : D.map bareK = R.map bareK) : rankB D = rankB R := by rw [← rankB_bare D, e, rankB_bare]
theorem rankN_of {D R : List Ak} (e : D.map bareK = R.map bareK) : rankN D = rankN R := by rw [← rankN_bare D, e, rankN_bare]
theorem len_of {D R : List Ak} (e : D.map bareK = R.map bareK) : D.length = R.length := by have := congrArg List.length e; simpa using this
theorem nsum_of {D R : List Ak} (e : D.map bareK = R.map bareK) : nsum D D.length = nsum R R.length := by rw [← nsum_bare D, e, nsum_bare, len_of e]
theorem Sl.of_get' {α : Type} {f : α → List Value} {H : Heap} {t : Nat} {l : List α} {o : Bool} {e z : Nat} (h : H.get t = some ⟨l.flatMap f, o, e, z⟩) : Sl f H t l := ⟨_, [], h, by simp⟩
theorem aksAt_of {G : Heap} {u : Nat} {D : List Ak} (sp : G.get u = some ⟨D.flatMap akE, true, 39, 3⟩) (row : ∀ r ∈ D, r.2.2.2.2.length ≤ 1048577 ∧ G.get r.2.2.1 = some ⟨r.2.2.2.2.flatMap nmE, true, 3, 1⟩) : AksAt G u D :=
  ⟨Sl.of_get' sp, fun r hr => ⟨Sl.of_get' (row r hr).2, (row r hr).1⟩⟩
theorem lawRankAreas_A (R : List Ak) (hm : (R.length : Int) ≤ 9223372036854775807) (hn : ∀ r ∈ R, (r.2.2.2.2.length : Int) ≤ 9223372036854775807) (c : Nat) (H : Heap) (t : Nat) (hI : AksIn H t R) :
    AFunC Try.prog 3 [.slice (some ⟨t, 0, none⟩) R.length c] H (.bool true) H := by
  refine AFunC.of_body Try.func3 (by kernel_rfl) rfl (by kernel_rfl) (by simp [Try.ntmps3]) ?_
  have ht := hI.sp.lt
  simp -dsimp -implicitDefEqProofs (disch := omega) [go_sem, -List.getD_eq_getElem?_getD, ite_yes, ht]
  refine ACall.via (szAks_R R hm hn c _ t hI.sp) ?_
  rintro _ _ ⟨x, rfl, rfl, hx⟩
  simp -dsimp -implicitDefEqProofs (disch := omega) [go_sem, -List.getD_eq_getElem?_getD, ite_yes, ht]
  refine AIf.of (fun w => ?_) (fun w => ?_)
  · simp -dsimp -implicitDefEqProofs (disch := omega) [go_sem, -List.getD_eq_getElem?_getD, ite_yes, ht]
    exact fin_flat0 rfl rfl
  have hb := hx (by simp at w; omega)
  have hl : R.length ≤ 1048577 := by omega
  have hs : ∀ r ∈ R, r.2.2.2.2.length ≤ 1048577 := fun r hr => by
    have := ak_small (R := R) (N := 1048576) (by omega) r hr
    omega
  clear hx
  simp -dsimp -implicitDefEqProofs (disch := omega) [go_sem, -List.getD_eq_getElem?_getD, ite_yes, ht]
  refine ACall.via (toAks_R R hl hs c _ t hI) ?_
  rintro _ G1 ⟨D1, rfl, e1, sp1, row1, _, kq1⟩
  have l1 := Heap.get_lt sp1
  have t1 : t < G1.length := by omega
  have A1 := aksAt_of sp1 fun r hr => (row1 r hr).2
  have n1 := len_of e1
  have I1 := hI.kq kq1
  have g1 := rankB_of e1
  have N1 := rankN_of e1
  clear sp1 row1
  cases hg : rankB R
  rotate_left
  · have h8 := (rankB_at hg).1
    have nl := rankN_length R
    have SR := sRank_good D1 (g1.trans hg)
    rw [N1] at SR
    have IR := fun (D : List Ak) (e : D.map bareK = R.map bareK) => iRank_good D ((rankB_of e).trans hg)
    have IR : ∀ (D : List Ak), D.map bareK = R.map bareK → ∀ (c : Nat) (H : Heap) (t : Nat), AksAt H t D → AFunC Try.prog 7 [.slice (some ⟨t, 0, none⟩) D.length c] H (.tuple #[.slice (some ⟨H.length, 0, none⟩) (rankN R).length 0, .bool true]) (H ++ [some ⟨(rankN R).flatMap nmE, true, 3, 1⟩]) := fun D e c H t hA => by
      have := IR D e c H t hA
      rwa [rankN_of e] at this
    generalize rankN R = N at *
    simp -dsimp -implicitDefEqProofs (disch := omega) [go_sem, -List.getD_eq_getElem?_getD, ite_yes, l1, t1]
    refine ACall.of (SR _ _ _ A1) ?_
    simp -dsimp -implicitDefEqProofs (disch := omega) [go_sem, -List.getD_eq_getElem?_getD, ite_yes, l1, t1]
    refine ACall.via (toAks_R R hl hs c _ t I1.app) ?_
    rintro _ G2 ⟨D2, rfl, e2, sp2, row2, _, kq2⟩
    simp only [List.length_append, List.length_cons, List.length_nil, Nat.zero_add] at sp2 row2
    have w2 := kq2.get ((Heap.get_len_add G1 [some ⟨N.flatMap nmE, true, 3, 1⟩] 0).trans rfl)
    have q12 : KQ G1 G2 := KQ.app.trans kq2
    have I2 := I1.kq q12
    have l2 := Heap.get_lt sp2
    have t2 : t < G2.length := by omega
    have row2' : ∀ r ∈ D2, r.2.2.1 < G2.length := fun r hr => Heap.get_lt (row2 r hr).2.2
    rw [Nat.add_zero] at w2
    clear kq2
    simp -dsimp -implicitDefEqProofs (disch := omega) [go_sem, -List.getD_eq_getElem?_getD, ite_yes, l2, t2]
    refine ACall.of (IR D2 e2 _ _ _ (aksAt_of sp2 fun r hr => (row2 r hr).2)) ?_
    simp -dsimp -implicitDefEqProofs (disch := omega) [go_sem, -List.getD_eq_getElem?_getD, ite_yes, l2, t2]
    refine ACall.of (eqNmS_A N N (by omega) (by omega) _ _ _ _ _ (Sl.of rfl) (Sl.of_get' w2).app) ?_
    simp -dsimp -implicitDefEqProofs (disch := omega) [go_sem, -List.getD_eq_getElem?_getD, ite_yes, l2, t2]
    refine ACall.via (toAks_R R hl hs c _ t I2.app) ?_
    rintro _ G3 ⟨D3, rfl, e3, sp3, row3, _, kq3⟩
    simp only [List.length_append, List.length_cons, List.length_nil, Nat.zero_add] at sp3 row3
    have g3 := kq3.get ((Heap.get_len_add G2 [some ⟨N.flatMap nmE, true, 3, 1⟩] 0).trans rfl)
    rw [Nat.add_zero] at g3
    have q23 : KQ G2 G3 := KQ.app.trans kq3
    have I3 := I2.kq q23
    have w3 := q23.get w2
    have sp23 := q23.get sp2
    have row23 : ∀ r ∈ D2, G1.length + 1 < r.2.2.1 ∧ r.2.2.1 < G2.length ∧ G3.get r.2.2.1 = some ⟨r.2.2.2.2.flatMap nmE, true, 3, 1⟩ := fun r hr => ⟨(row2 r hr).1, row2' r hr, q23.get (row2 r hr).2.2⟩
    have l3 := Heap.get_lt sp3
    have t3 : t < G3.length := by omega
    clear kq3
    simp -dsimp -implicitDefEqProofs (disch := omega) [go_sem, -List.getD_eq_getElem?_getD, ite_yes, l3, t3]
    refine ACall.of (eqAks_A D2 D3 (e2.trans e3.symm) (by have := len_of e2; omega) _ _ _ _ _ (aksAt_of sp23 fun r hr => ⟨(row2 r hr).2.1, (row23 r hr).2.2⟩) (aksAt_of sp3 fun r hr => (row3 r hr).2)) ?_
    simp -dsimp -implicitDefEqProofs (disch := omega) [go_sem, -List.getD_eq_getElem?_getD, ite_yes, l3, t3]
    refine ACall.via (markAks_R D2 (by have := len_of e2; omega) (by rw [nsum_of e2]; omega) _ _ _ G2.length sp23 row23) ?_
    rintro _ G4 ⟨x4, rfl, x40, out4, gl4, _⟩
    have w4 := (out4 G1.length (by omega)).trans w3
    have g4 := (out4 G2.length (by omega)).trans g3
    have q4 : KQ H G4 := ⟨by omega, fun s hs' => (out4 s (by omega)).trans (((kq1.trans q12).trans q23).2 s hs')⟩
    clear out4
    have t4 : t < G4.length := by omega
    simp -dsimp -implicitDefEqProofs (disch := omega) [go_sem, -List.getD_eq_getElem?_getD, ite_yes, t4]
    refine AIf.of (fun h => absurd (of_decide_eq_true h) (by omega)) (fun _ => ?_)
    simp -dsimp -implicitDefEqProofs (disch := omega) [go_sem, -List.getD_eq_getElem?_getD, ite_yes, t4]
    refine ACall.of (eqNmS_A N N (by omega) (by omega) _ _ _ _ _ (Sl.of_get' g4) (Sl.of_get' w4)) ?_
    simp -dsimp -implicitDefEqProofs (disch := omega) [go_sem, -List.getD_eq_getElem?_getD, ite_yes, t4]
    refine ACall.via (markNmS_A N (by omega) _ _ 1 (by omega) (by omega) _ _ g4).rel ?_
    rintro _ G5 ⟨rfl, e5⟩
    have l5 : G5.length = G4.length := by rw [e5]; simp
    have w5 : G5.get G1.length = some ⟨N.flatMap nmE, true, 3, 1⟩ := by rw [e5]; exact (Heap.get_set_ne (by omega)).trans w4
    have g5 : G5.get G2.length = some ⟨(marksNm 1 N.length).flatMap nmE, true, 3, 1⟩ := by rw [e5]; exact Heap.get_set_self (Heap.get_lt g4)
    have q5 : KQ H G5 := ⟨by omega, fun s hs' => by rw [e5]; exact (Heap.get_set_ne (by omega)).trans (q4.2 s hs')⟩
    clear e5
    have t5 : t < G5.length := by omega
    simp -dsimp -implicitDefEqProofs (disch := omega) [go_sem, -List.getD_eq_getElem?_getD, ite_yes, t5]
    refine ACall.of (heldNmS_A N.length (by omega) _ 1 (by omega) (by omega) _ _ (Sl.of_get' g5)) ?_
    simp -dsimp -implicitDefEqProofs (disch := omega) [go_sem, -List.getD_eq_getElem?_getD, ite_yes, t5]
    try (refine AIf.of (fun h => absurd (of_decide_eq_true h) (by omega)) (fun _ => ?_); simp -dsimp -implicitDefEqProofs (disch := omega) [go_sem, -List.getD_eq_getElem?_getD, ite_yes, t5])
    refine ACall.via (toAks_R R hl hs c _ t (hI.kq q5)) ?_
    rintro _ G6 ⟨D6, rfl, e6, sp6, row6, _, kq6⟩
    have q6 := q5.trans kq6
    have w6 := kq6.get w5
    have g6 := kq6.get g5
    have l6 := Heap.get_lt sp6
    simp -dsimp -implicitDefEqProofs (disch := omega) [go_sem, -List.getD_eq_getElem?_getD, ite_yes, l6]
    refine ACall.of (IR D6 e6 _ _ _ (aksAt_of sp6 fun r hr => (row6 r hr).2)) ?_
    simp -dsimp -implicitDefEqProofs (disch := omega) [go_sem, -List.getD_eq_getElem?_getD, ite_yes]
    refine ACall.of (eqNmS_A N N (by omega) (by omega) _ _ _ _ _ (Sl.of rfl) (Sl.of_get' w6).app) ?_
    simp -dsimp -implicitDefEqProofs (disch := omega) [go_sem, -List.getD_eq_getElem?_getD, ite_yes]
    refine ACall.of (heldNmS_A N.length (by omega) _ 1 (by omega) (by omega) _ _ (Sl.of_get' g6).app) ?_
    simp -dsimp -implicitDefEqProofs (disch := omega) [go_sem, -List.getD_eq_getElem?_getD, ite_yes]
    try (refine AIf.of (fun h => absurd (of_decide_eq_true h) (by omega)) (fun _ => ?_); simp -dsimp -implicitDefEqProofs (disch := omega) [go_sem, -List.getD_eq_getElem?_getD, ite_yes])
    exact fin_kq (fun s hs' => ((q6.trans KQ.app).2 s hs')) rfl
  · have SR := fun hl => sRank_bad D1 hl (g1.trans hg)
    have IR := fun (D : List Ak) (e : D.map bareK = R.map bareK) hl => iRank_bad D hl ((rankB_of e).trans hg)
    simp -dsimp -implicitDefEqProofs (disch := omega) [go_sem, -List.getD_eq_getElem?_getD, ite_yes, l1, t1]
    refine ACall.of (SR (by omega) _ _ _ A1) ?_
    simp -dsimp -implicitDefEqProofs (disch := omega) [go_sem, -List.getD_eq_getElem?_getD, ite_yes, l1, t1]
    refine ACall.via (toAks_R R hl hs c _ t I1.app) ?_
    rintro _ G2 ⟨D2, rfl, e2, sp2, row2, _, kq2⟩
    simp only [List.length_append, List.length_cons, List.length_nil, Nat.zero_add] at sp2 row2
    have q12 : KQ G1 G2 := KQ.app.trans kq2
    have I2 := I1.kq q12
    have l2 := Heap.get_lt sp2
    have t2 : t < G2.length := by omega
    have row2' : ∀ r ∈ D2, r.2.2.1 < G2.length := fun r hr => Heap.get_lt (row2 r hr).2.2
    clear kq2
    simp -dsimp -implicitDefEqProofs (disch := omega) [go_sem, -List.getD_eq_getElem?_getD, ite_yes, l2, t2]
    refine ACall.of (IR D2 e2 (by have := len_of e2; omega) _ _ _ (aksAt_of sp2 fun r hr => (row2 r hr).2)) ?_
    simp -dsimp -implicitDefEqProofs (disch := omega) [go_sem, -List.getD_eq_getElem?_getD, ite_yes, l2, t2]
    refine ACall.of (eqNmS_nil _ _ _) ?_
    simp -dsimp -implicitDefEqProofs (disch := omega) [go_sem, -List.getD_eq_getElem?_getD, ite_yes, l2, t2]
    refine ACall.via (toAks_R R hl hs c _ t I2) ?_
    rintro _ G3 ⟨D3, rfl, e3, sp3, row3, _, q23⟩
    have I3 := I2.kq q23
    have sp23 := q23.get sp2
    have row23 : ∀ r ∈ D2, G1.length + 1 < r.2.2.1 ∧ r.2.2.1 < G2.length ∧ G3.get r.2.2.1 = some ⟨r.2.2.2.2.flatMap nmE, true, 3, 1⟩ := fun r hr => ⟨(row2 r hr).1, row2' r hr, q23.get (row2 r hr).2.2⟩
    have l3 := Heap.get_lt sp3
    have t3 : t < G3.length := by omega
    simp -dsimp -implicitDefEqProofs (disch := omega) [go_sem, -List.getD_eq_getElem?_getD, ite_yes, l3, t3]
    refine ACall.of (eqAks_A D2 D3 (e2.trans e3.symm) (by have := len_of e2; omega) _ _ _ _ _ (aksAt_of sp23 fun r hr => ⟨(row2 r hr).2.1, (row23 r hr).2.2⟩) (aksAt_of sp3 fun r hr => (row3 r hr).2)) ?_
    simp -dsimp -implicitDefEqProofs (disch := omega) [go_sem, -List.getD_eq_getElem?_getD, ite_yes, l3, t3]
    refine ACall.via (markAks_R D2 (by have := len_of e2; omega) (by rw [nsum_of e2]; omega) _ _ _ G2.length sp23 row23) ?_
    rintro _ G4 ⟨x4, rfl, x40, out4, gl4, _⟩
    have q4 : KQ H G4 := ⟨by omega, fun s hs' => (out4 s (by omega)).trans (((kq1.trans q12).trans q23).2 s hs')⟩
    clear out4
    have t4 : t < G4.length := by omega
    simp -dsimp -implicitDefEqProofs (disch := omega) [go_sem, -List.getD_eq_getElem?_getD, ite_yes, t4]
    refine AIf.of (fun h => absurd (of_decide_eq_true h) (by omega)) (fun _ => ?_)
    simp -dsimp -implicitDefEqProofs (disch := omega) [go_sem, -List.getD_eq_getElem?_getD, ite_yes, t4]
    refine ACall.of (eqNmS_nil _ _ _) ?_
    simp -dsimp -implicitDefEqProofs (disch := omega) [go_sem, -List.getD_eq_getElem?_getD, ite_yes, t4]
    refine ACall.of (markNmS_nil _ _) ?_
    simp -dsimp -implicitDefEqProofs (disch := omega) [go_sem, -List.getD_eq_getElem?_getD, ite_yes, t4]
    refine ACall.of (heldNmS_nil _ _) ?_
    simp -dsimp -implicitDefEqProofs (disch := omega) [go_sem, -List.getD_eq_getElem?_getD, ite_yes, t4]
    refine ACall.via (toAks_R R hl hs c _ t (hI.kq q4)) ?_
    rintro _ G6 ⟨D6, rfl, e6, sp6, row6, _, kq6⟩
    have q6 := q4.trans kq6
    have l6 := Heap.get_lt sp6
    simp -dsimp -implicitDefEqProofs (disch := omega) [go_sem, -List.getD_eq_getElem?_getD, ite_yes, l6]
    refine ACall.of (IR D6 e6 (by have := len_of e6; omega) _ _ _ (aksAt_of sp6 fun r hr => (row6 r hr).2)) ?_
    simp -dsimp -implicitDefEqProofs (disch := omega) [go_sem, -List.getD_eq_getElem?_getD, ite_yes]
    refine ACall.of (eqNmS_nil _ _ _) ?_
    simp -dsimp -implicitDefEqProofs (disch := omega) [go_sem, -List.getD_eq_getElem?_getD, ite_yes]
    refine ACall.of (heldNmS_nil _ _) ?_
    simp -dsimp -implicitDefEqProofs (disch := omega) [go_sem, -List.getD_eq_getElem?_getD, ite_yes]
    exact fin_kq (fun s hs' => (q6.2 s hs')) rfl
end Go.Proofs.Ytdbneadblnejgaa
/- The program's own facts for the rows. -/
namespace Go.Proofs.Ytdbneadblnejgaa
theorem own_ : ownKnob Try.prog.godebug = none := by kernel_rfl
theorem laidOut_ : laidOutB Try.prog = true := by kernel_rfl
end Go.Proofs.Ytdbneadblnejgaa
/- Arguments that are lists of areas: each has a list of its own. -/
namespace Go.Proofs.Ytdbneadblnejgaa
open Go.Am Go.RowKit Go.ChangeShapes Go.WideShapes Go.Deep
set_option linter.unusedVariables false
set_option maxRecDepth 100000
def NmOk (W : World) (v : Value) : Prop := v = .slice none 0 0 ∨ ∃ (a : Addr) (len cap : Nat), v = .slice (some a) len cap ∧ len ≤ cap ∧ cap ≤ maxLen ∧ ∀ i, i < cap → ∃ r : Nm, ∀ j c, (nmE r)[j]? = some c → W.cell? (a.add (i * 1 + j)) = some c
def AkCells (W : World) (a : Addr) (i : Nat) : Prop := ∃ (x y : Int) (nv : Value), W.cell? (a.add (i * 3)) = some (.int .i64 x) ∧ W.cell? (a.add (i * 3 + 1)) = some (.int .i64 y) ∧ W.cell? (a.add (i * 3 + 2)) = some nv ∧ NmOk W nv
theorem open_NmT {H : Type} {enc : TypeId × Value → H} {W : World} {v : Value} {x : DataW H × List MemPlace} {fuel : Nat} (hf : DataW.trod enc Try.prog W 0 (fun _ => true) true fuel 24 [v] = some x) : NmOk W v := by
  rcases open_slice Try.underlying24 hf with ⟨h1, _⟩ | ⟨a, len, cap, m, n, D, Pl, h1, hb, h2, h3, h4, _, hi⟩
  · cases h1; exact .inl rfl
  · cases h1
    refine .inr ⟨a, _, _, rfl, h2, h3, fun i him => ?_⟩
    have him' : i < m := by rw [h4]; simpa using him
    obtain ⟨cs', hc, ht'⟩ := hi i him'
    rw [show Try.prog.cellsOf 3 = 1 by kernel_rfl] at hc
    obtain ⟨_, hcl, hat⟩ := World.cells?_some hc
    obtain ⟨v, rfl⟩ : ∃ v, cs' = [v] := List.length_eq_one_iff.1 hcl
    obtain ⟨n0, e0, _, _⟩ := DataW.trod_int Try.underlying3 ht'
    cases e0
    refine ⟨n0, fun j c hj => ?_⟩
    match j, hj with
    | 0, hj =>
      cases hj
      have := hat 0 (by omega)
      simpa [Addr.add] using this
theorem open_Ak {H : Type} {enc : TypeId × Value → H} {W : World} {v : Value} {d : DataW H} {ps : List MemPlace} {b0 : Nat} (hv : Value.okWide Try.prog W .any b0 22 v) (h : DataW.Trod enc Try.prog W 0 (fun _ => true) true 22 v d ps) :
    v = .slice none 0 0 ∨ ∃ (a : Addr) (len cap : Nat), v = .slice (some a) len cap ∧ len ≤ cap ∧ cap ≤ maxLen ∧ ∀ i, i < cap → AkCells W a i := by
  obtain ⟨fuel, hf⟩ := h
  obtain ⟨a0, len0, cap0, rfl⟩ := okWide_slice Try.underlying22 hv
  have hf : DataW.trod enc Try.prog W 0 (fun _ => true) true fuel 22 [.slice a0 len0 cap0] = some (d, ps) := hf
  rcases open_slice_fields Try.underlying22 Try.underlying36 (by kernel_rfl) (by kernel_rfl) hf with ⟨h1, _⟩ | ⟨a, len, cap, m, D, Pl, h1, hb, h2, h3, h4, _, hi⟩
  · cases h1; exact .inl rfl
  · cases h1
    refine .inr ⟨a, _, _, rfl, h2, h3, fun i him => ?_⟩
    have him' : i < m := by rw [h4]; simpa using him
    obtain ⟨ys, n, _, _, _, hfs⟩ := hi i him'
    obtain ⟨v0, y0, c0, _, t0⟩ := hfs 0 _ rfl
    obtain ⟨v1, y1, c1, _, t1⟩ := hfs 1 _ rfl
    obtain ⟨v2, y2, c2, _, t2⟩ := hfs 2 _ rfl
    obtain ⟨n0, e0, _, _⟩ := DataW.trod_int Try.underlying3 t0
    obtain ⟨n1, e1, _, _⟩ := DataW.trod_int Try.underlying3 t1
    cases e0; cases e1
    exact ⟨n0, n1, v2, c0, c1, c2, open_NmT t2⟩
theorem arg_rows {W : World} {a : Addr} (n : Nat) (hc : ∀ i, i < n → AkCells W a i) : ∀ k, k ≤ n → ∃ (R : List Ak) (ρ : Rho) (H : Heap), R.length = k ∧ HR ρ H W ∧ noOwn H ∧ (∀ r ∈ R, r.2.2.2.2.length ≤ maxLen ∧ Sl nmE H r.2.2.1 r.2.2.2.2) ∧
    ∀ i r, R[i]? = some r → ∃ nv, W.cell? (a.add (i * 3)) = some (.int .i64 r.1) ∧ W.cell? (a.add (i * 3 + 1)) = some (.int .i64 r.2.1) ∧ W.cell? (a.add (i * 3 + 2)) = some nv ∧ CR ρ (.slice (some ⟨r.2.2.1, 0, none⟩) r.2.2.2.2.length r.2.2.2.1) nv
  | 0, _ => ⟨[], _, [], rfl, HR.none W, noOwn_nil, fun r hr => absurd hr (by simp), fun i r h => by simp at h⟩
  | k + 1, hk => by
    obtain ⟨R, ρ, H, h1, h2, h3, h4, h5⟩ := arg_rows n hc k (by omega)
    obtain ⟨x, y, nv, c0, c1, c2, hnv⟩ := hc k (by omega)
    obtain ⟨l, ρ', H', hl, hh, hno, hle, hlen, hS, hkp, hsv⟩ := arg_slice (f := nmE) (s := 1) (fun _ => rfl) (by omega) (fun _ => rfl) h2 h3 hnv
    refine ⟨R ++ [(x, y, H.length, 0, l)], ρ', H', by simp [h1], hh, hno, fun r hr => ?_, fun i r hr => ?_⟩
    · rcases List.mem_append.1 hr with hr | hr
      · exact ⟨(h4 r hr).1, hkp _ _ _ (h4 r hr).2⟩
      · rw [List.mem_singleton] at hr; subst hr
        exact ⟨hl, hS⟩
    · rcases Nat.lt_or_ge i R.length with hi | hi
      · rw [List.getElem?_append_left hi] at hr
        obtain ⟨nv', g0, g1, g2, g3⟩ := h5 i r hr
        exact ⟨nv', g0, g1, g2, CR.mono hle g3⟩
      · rw [List.getElem?_append_right hi] at hr
        have : i = k := by
          rcases Nat.lt_or_ge (i - R.length) 1 with h' | h'
          · omega
          · rw [List.getElem?_eq_none (by simpa using h')] at hr; cases hr
        subst this
        rw [h1, Nat.sub_self] at hr
        cases hr
        exact ⟨nv, c0, c1, c2, hsv⟩
theorem arg_aks {W : World} {v : Value} (hv : v = .slice none 0 0 ∨ ∃ (a : Addr) (len cap : Nat), v = .slice (some a) len cap ∧ len ≤ cap ∧ cap ≤ maxLen ∧ ∀ i, i < cap → AkCells W a i) :
    ∃ (R : List Ak) (ρ : Rho) (H : Heap) (t : Nat), R.length ≤ maxLen ∧ (∀ r ∈ R, r.2.2.2.2.length ≤ maxLen) ∧ HR ρ H W ∧ noOwn H ∧ AksIn H t R ∧ SV1 ρ (.slice (some ⟨t, 0, none⟩) R.length 0) v := by
  have h0 := HR.none W
  rcases hv with rfl | ⟨a, len, cap, rfl, h1, h2, h3⟩
  · refine ⟨[], _, [] ++ [some ⟨[], false, 0, 3⟩], 0, by simp, by simp, h0.arg (L := .virt) noOwn_nil (show BlkR _ _ _ .virt from rfl), noOwn_nil.snoc _ _ _, ⟨⟨_, [], rfl, rfl⟩, by simp⟩, ?_⟩
    exact ⟨rfl, .virt, none, 0, upd_new, rfl, by simp, by simp [maxLen], .inl ⟨rfl, fun _ _ _ h => by cases h⟩⟩
  · rcases Nat.eq_zero_or_pos cap with hc0 | hc0
    · have hl : len = 0 := by omega
      subst hl; subst hc0
      refine ⟨[], _, [] ++ [some ⟨[], false, 0, 3⟩], 0, by simp, by simp, h0.arg (L := .virt) noOwn_nil (show BlkR _ _ _ .virt from rfl), noOwn_nil.snoc _ _ _, ⟨⟨_, [], rfl, rfl⟩, by simp⟩, ?_⟩
      exact ⟨rfl, .virt, some a, 0, upd_new, rfl, by simp, by simp [maxLen], .inl ⟨rfl, fun _ _ _ h => by cases h⟩⟩
    · obtain ⟨R, ρ, H, hl, hh, hno, hr, hat⟩ := arg_rows cap h3 len h1
      have hsp : a.spot = none := by
        obtain ⟨x, y, nv, hc, _⟩ := h3 0 hc0
        rw [Nat.zero_mul] at hc
        have : (a.add 0) = a := by simp [Addr.add]
        rw [this] at hc
        unfold World.cell? at hc
        split at hc
        · split at hc
          · cases hc
          · rename_i hn; simpa using hn
        · cases hc
      have hle := upd_le hh (.real a (cap * 3) 3)
      have hxl : (R.flatMap akE).length = len * 3 := by rw [akE_length, hl]
      have hblk : BlkR (upd ρ H.length (.real a (cap * 3) 3)) ⟨R.flatMap akE, false, 0, 3⟩ W (.real a (cap * 3) 3) := by
        refine ⟨hsp, rfl, by simp only [hxl]; exact Nat.mul_le_mul_right 3 h1, fun j c hc => ?_, fun h => by cases h⟩
        simp only at hc
        have hj : j < len * 3 := by
          have := (List.getElem?_eq_some_iff.1 hc).1
          rwa [hxl] at this
        have hk : j / 3 < len := Nat.div_lt_of_lt_mul (by rw [Nat.mul_comm]; exact hj)
        have hm : j % 3 < 3 := Nat.mod_lt _ (by omega)
        have hjj : j = j / 3 * 3 + j % 3 := by omega
        have hlk : R[j / 3]? = some (R[j / 3]'(by omega)) := List.getElem?_eq_getElem (by omega)
        have hcells := flatMap_cells akE 3 (fun _ => rfl) (R[j / 3]'(by omega)) R (j / 3) (by omega)
        have hget : (akE (R[j / 3]'(by omega)))[j % 3]? = some c := by
          have e : (R.getD (j / 3) (R[j / 3]'(by omega))) = R[j / 3]'(by omega) := by simp [List.getD, hlk]
          rw [e] at hcells
          rw [← hcells, List.getElem?_take, if_pos hm, List.getElem?_drop, ← hjj]
          exact hc
        obtain ⟨nv, g0, g1, g2, g3⟩ := hat _ _ hlk
        generalize R[j / 3]'(by omega) = r at *
        rw [hjj]
        match hmm : j % 3, hm, hget with
        | 0, _, hget => cases hget; exact ⟨_, g0, rfl⟩
        | 1, _, hget => cases hget; exact ⟨_, g1, rfl⟩
        | 2, _, hget => cases hget; exact ⟨_, g2, CR.mono hle g3⟩
      refine ⟨R, _, H ++ [some ⟨R.flatMap akE, false, 0, 3⟩], H.length, by omega, fun r hr' => (hr r hr').1, hh.arg hno hblk, hno.snoc _ _ _, ⟨Sl.of rfl, fun r hr' => (hr r hr').2.app⟩, ?_⟩
      refine ⟨rfl, _, some a, cap, upd_new, by rw [hl], by omega, h2, .inr ⟨a, cap * 3, 3, rfl, by simp [Addr.add], by simp⟩⟩
end Go.Proofs.Ytdbneadblnejgaa
