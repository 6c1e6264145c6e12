/- HoursTop, FnReadings, in one text. -/
import Derived.Test.YtokafhinmakdnaaReM1
import Derived.Test.YtokafhinmakdnaaDrawTxR
import Derived.Test.YtokafhinmakdnaaLawV
/- Alarm hours lie between none and all: plain. -/
namespace Go.Proofs.Ytokafhinmakdnaa
open Go.Am
set_option linter.unusedVariables false
theorem hsI_top {r : Ar} {to : Int} {l : List Rg} (hg : goodRg l = true) (h0 : 0 ≤ to) : ∀ k, k ≤ l.length → (hsI r to l k).1 ≤ (hsI r to l k).2.2 ∧ (hsI r to l k).1 ≤ to ∧ ∀ j, k ≤ j → j < l.length → (hsI r to l k).2.2 ≤ (l.getD j (0, 0, 0)).1
  | 0, _ => by
    refine ⟨by simp [hsI], by simpa [hsI] using h0, fun j _ hj => ?_⟩
    have := goodRg_at hg hj
    simp only [hsI]
    omega
  | k + 1, hk => by
    obtain ⟨i1, i2, i3⟩ := hsI_top (r := r) hg h0 k (by omega)
    have hm : ∀ j, k + 1 ≤ j → j < l.length → (l.getD k (0, 0, 0)).1 ≤ (l.getD j (0, 0, 0)).1 := fun j h1 h2 => by
      have := goodRg_mono hg (j - k) k (by omega)
      rwa [show k + (j - k) = j by omega] at this
    have hs := i3 k (by omega) (by omega)
    by_cases hn : (l.getD k (0, 0, 0)).2.1 ≠ r.1
    · have e2 : hsI r to l (k + 1) = hsI r to l k := by simp only [hsI]; rw [if_pos hn]
      rw [e2]
      exact ⟨i1, i2, fun j a b => i3 j (by omega) b⟩
    · have e2 : hsI r to l (k + 1) = (if (hsI r to l k).2.1 ≠ 0 then (hsI r to l k).1 + max (min (l.getD k (0, 0, 0)).1 to - (hsI r to l k).2.2) 0 else (hsI r to l k).1, kindN r (hsI r to l k).2.1 (l.getD k (0, 0, 0)).2.2, (l.getD k (0, 0, 0)).1) := by
        simp only [hsI]; rw [if_neg hn]
      rw [e2]
      refine ⟨?_, ?_, fun j a b => hm j a b⟩ <;> simp only <;> split <;> omega
theorem ahN_rng {r : Ar} {l : List Rg} {to : Int} (h : ahOk r l to = true) : 0 ≤ ahN r l to ∧ ahN r l to ≤ to := by
  have a := AhAt.of h
  have e := hours_eq (r := r) a.f_list a.f_to.1
  have b := hsI_bound (r := r) a.f_list a.f_to.1 a.f_to.2 l.length (Nat.le_refl _)
  have t := hsI_top (r := r) a.f_list a.f_to.1 l.length (Nat.le_refl _)
  unfold ahN
  rw [← e]
  unfold finI
  split <;> omega
end Go.Proofs.Ytokafhinmakdnaa
/- FnReadings: the law. -/
namespace Go.Proofs.Ytokafhinmakdnaa
open Go.Am Go.Lib
set_option linter.unusedVariables false
set_option linter.unusedSimpArgs false
set_option maxRecDepth 100000
set_option maxHeartbeats 4000000
theorem kaN_twice {r : Ar} {k x : Int} (h : kaOk r k x = true) : kaOk r (kindN r k x) x = true ∧ kaN r k x = kindN r k x ∧ kaN r (kindN r k x) x = kindN r k x := by
  have h2 : kaOk r (kindN r k x) x = true := by
    simp only [kaOk, Bool.and_eq_true] at h ⊢
    refine ⟨h.1, ?_, h.2.2⟩
    have := h.2.1
    simp only [inB, Bool.and_eq_true, decide_eq_true_eq] at this ⊢
    unfold kindN
    split
    · omega
    · split
      · omega
      · split <;> omega
  refine ⟨h2, by rw [kaN, if_pos h], ?_⟩
  rw [kaN, if_pos h2]
  exact kindN_twice _ _ _
theorem lawReadings_A {H : Heap} {tc n : Nat} (h : Bytes H tc n) (cc : Nat) : AFunC Try.prog 5 [.slice (some ⟨tc, 0, none⟩) n cc] H (.bool true) H := by
  refine AFunC.of_awp Try.func5 (by kernel_rfl) rfl (by simp [Try.ntmps5]) ?_
  have ht := h.lt
  refine AWp.step 2 [(0, .slice (some ⟨tc, 0, none⟩) n cc)] H (by kernel_rfl) (by kernel_rfl) ?_ ?_
  · simp -dsimp -implicitDefEqProofs (disch := omega) [go_sem, -List.getD_eq_getElem?_getD, ite_yes]
    refine ACall.of (vBig_A _ _ _ _) ?_
    simp -dsimp -implicitDefEqProofs (disch := omega) [go_sem, -List.getD_eq_getElem?_getD, ite_yes]
    refine AIf.of (fun h' => ?_) (fun h' => ?_)
    · simp -dsimp -implicitDefEqProofs (disch := omega) [go_sem, -List.getD_eq_getElem?_getD, ite_yes]
      exact fin_flat0 rfl rfl
    · simp -dsimp -implicitDefEqProofs (disch := omega) [go_sem, -List.getD_eq_getElem?_getD, ite_yes]
      exact ⟨weakS_same (by simp -dsimp -implicitDefEqProofs (disch := omega) [go_sem, -List.getD_eq_getElem?_getD, ite_yes, ht])⟩
  simp only [AWp_drop, AWp_drop0]
  refine AWp.step 4 [(0, .slice (some ⟨tc, 0, none⟩) n cc)] H (by kernel_rfl) (by kernel_rfl) ?_ ?_
  · simp -dsimp -implicitDefEqProofs (disch := omega) [go_sem, -List.getD_eq_getElem?_getD, ite_yes]
    refine ACall.via (drawTakeReadings_R h cc) ?_
    rintro _ _ ⟨rs, l, m, rfl, l1, l2, l3, rfl⟩
    have hrl : rs.length ≤ 1048577 := by omega
    have hll : l.length ≤ 1048577 := by omega
    have hml : m.length ≤ 1048577 := by omega
    cases hg : takesOk rs l m
    · simp -dsimp -implicitDefEqProofs (disch := omega) [go_sem, -List.getD_eq_getElem?_getD, ite_yes]
      refine ACall.of (iTakes_bad rs l m hrl hll hml hg _ _ _ _ _ _ _ (Sl.of rfl) (Sl.nth 1 rfl rfl) (Sl.nth 2 rfl rfl)) ?_
      simp -dsimp -implicitDefEqProofs (disch := omega) [go_sem, -List.getD_eq_getElem?_getD, ite_yes]
      refine ACall.of (sTakes_bad rs l m hrl hll hml hg _ _ _ _ _ _ _ (Sl.of rfl) (Sl.nth 1 rfl rfl) (Sl.nth 2 rfl rfl)) ?_
      simp -dsimp -implicitDefEqProofs (disch := omega) [go_sem, -List.getD_eq_getElem?_getD, ite_yes]
      refine ACall.of (vAlarms_nil _ _ _) ?_
      simp -dsimp -implicitDefEqProofs (disch := omega) [go_sem, -List.getD_eq_getElem?_getD, ite_yes]
      exact ⟨weakS_drop (by simp -dsimp -implicitDefEqProofs (disch := omega) [go_sem, -List.getD_eq_getElem?_getD, ite_yes, ht])⟩
    obtain ⟨g1, g2, g3⟩ := takesOk_at hg
    have ol := goodA_ord.1 g2
    have hok := listOk_at g3
    have A1 := fun c0 c1 c2 H t0 t1 t2 => iTakes_good rs l m hrl hll hml hg c0 c1 c2 H t0 t1 t2
    have A2 := fun c0 c1 c2 H t0 t1 t2 => sTakes_good rs l m hrl hll hml hg c0 c1 c2 H t0 t1 t2
    have x8 := takesTo_small hg m.length (Nat.le_refl _)
    have e0 : takesTo rs l m 0 = l := rfl
    generalize eX : takesTo rs l m m.length = X at A1 A2 x8
    have hX : X.length ≤ 1048577 := by omega
    have xf := rgE_length m
    have lf := alE_length l
    have tk : List.take (l.length * 4) (l.flatMap alE) = l.flatMap alE := by rw [← lf, List.take_length]
    have cs := fun k hk => flatMap_cells rgE 3 (fun _ => rfl) (0, 0, 0) m k hk
    simp only [rgE] at cs
    simp -dsimp -implicitDefEqProofs (disch := omega) [go_sem, -List.getD_eq_getElem?_getD, ite_yes]
    refine ACall.of (A1 _ _ _ _ _ _ _ (Sl.of rfl) (Sl.nth 1 rfl rfl) (Sl.nth 2 rfl rfl)) ?_
    simp -dsimp -implicitDefEqProofs (disch := omega) [go_sem, -List.getD_eq_getElem?_getD, ite_yes]
    refine ACall.of (A2 _ _ _ _ _ _ _ (Sl.of rfl) (Sl.nth 1 rfl rfl) (Sl.nth 2 rfl rfl)) ?_
    simp -dsimp -implicitDefEqProofs (disch := omega) [go_sem, -List.getD_eq_getElem?_getD, ite_yes]
    refine ACall.of (vAlarms_same X hX _ _ _ _ _ (Sl.nth 3 rfl rfl) (Sl.nth 4 rfl rfl)) ?_
    simp -dsimp -implicitDefEqProofs (disch := omega) [go_sem, -List.getD_eq_getElem?_getD, ite_yes, lf, tk]
    refine ⟨by omega, ?_⟩
    refine ALoop.intro (ι := Nat) (fun k => k ≤ m.length) (fun k => [(0, .slice (some ⟨tc, 0, none⟩) n cc), (3, .slice (some ⟨H.length, 0, none⟩) rs.length rs.length), (5, .slice (some ⟨H.length + 1, 0, none⟩) m.length m.length), (6, .slice (some ⟨H.length + 2, 0, none⟩) X.length X.length), (10, .slice (some ⟨H.length + 3, 0, none⟩) (takesTo rs l m k).length (takesTo rs l m k).length), (11, .int .i64 k)])
      (fun k => H ++ [some ⟨rs.flatMap arE, true, 54, 4⟩, some ⟨m.flatMap rgE, true, 34, 3⟩, some ⟨X.flatMap alE, true, 74, 4⟩, some ⟨(takesTo rs l m k).flatMap alE, true, 74, 4⟩]) (fun k => m.length - k) 0 (by omega) ?_ ?_
    · refine weakS_mk [some 0, some 2, some 3, some 6] rfl ?_ (by simp -dsimp -implicitDefEqProofs (disch := omega) [go_sem, -List.getD_eq_getElem?_getD, ite_yes, ht, e0])
      simp -dsimp -implicitDefEqProofs (disch := omega) [go_sem, -List.getD_eq_getElem?_getD, ite_yes, e0]
      exact ⟨.inl ⟨rfl, arE_flat _⟩, .inl ⟨rfl, rgE_flat _⟩, .inl ⟨rfl, alE_flat _⟩, .inl ⟨rfl, alE_flat _⟩⟩
    intro k hk
    have e : takesTo rs l m (k + 1) = takeL rs (takesTo rs l m k) (m.getD k gD) := rfl
    have ok := takesTo_ord (rs := rs) ol hok k hk
    have t8 := takesTo_small hg k hk
    by_cases hlt : k < m.length
    · have hlti : (k : Int) < (m.length : Int) := by omega
      have c := cs k hlt
      have rk := hok k hlt
      have k3 : k * 3 + 3 ≤ m.length * 3 := by omega
      generalize hG : takesTo rs l m k = G at *
      obtain ⟨r, hr⟩ : ∃ r, m.getD k gD = r := ⟨_, rfl⟩
      rw [hr] at c e rk
      have hgt : takeOk rs G r = true := by simp [takeOk, g1, goodA_ord.2 ok, rk]
      simp -dsimp -implicitDefEqProofs (disch := omega) [go_sem, -List.getD_eq_getElem?_getD, ite_yes, hlt, hlti, c, xf, k3]
      refine ACall.of (iTakeR_good rs G r hrl (by omega) hgt _ _ _ _ _ (Sl.of rfl) (Sl.nth 3 rfl rfl)) ?_
      simp -dsimp -implicitDefEqProofs (disch := omega) [go_sem, -List.getD_eq_getElem?_getD, ite_yes]
      refine LoopEnd.of (k + 1) (by omega) (by omega) (weakS_mk [some 0, some 1, some 2, some 4] rfl ?_ (by simp -dsimp -implicitDefEqProofs (disch := omega) [go_sem, -List.getD_eq_getElem?_getD, ite_yes, ht, e]))
      simp -dsimp -implicitDefEqProofs (disch := omega) [go_sem, -List.getD_eq_getElem?_getD, ite_yes, e]
      exact ⟨.inl ⟨rfl, arE_flat _⟩, .inl ⟨rfl, rgE_flat _⟩, .inl ⟨rfl, alE_flat _⟩, .inl ⟨rfl, alE_flat _⟩⟩
    obtain rfl : k = m.length := by omega
    have hlti : ¬ (m.length : Int) < (m.length : Int) := by omega
    rw [eX]
    simp -dsimp -implicitDefEqProofs (disch := omega) [go_sem, -List.getD_eq_getElem?_getD, ite_yes, hlti]
    refine ACall.of (vAlarms_same X hX _ _ _ _ _ (Sl.nth 3 rfl rfl) (Sl.nth 2 rfl rfl)) ?_
    simp -dsimp -implicitDefEqProofs (disch := omega) [go_sem, -List.getD_eq_getElem?_getD, ite_yes]
    exact ⟨weakS_drop (by simp -dsimp -implicitDefEqProofs (disch := omega) [go_sem, -List.getD_eq_getElem?_getD, ite_yes, ht])⟩
  simp only [AWp_drop, AWp_drop0]
  refine AWp.step 3 [(0, .slice (some ⟨tc, 0, none⟩) n cc)] H (by kernel_rfl) (by kernel_rfl) ?_ ?_
  · simp -dsimp -implicitDefEqProofs (disch := omega) [go_sem, -List.getD_eq_getElem?_getD, ite_yes]
    refine ACall.via (drawAlarmHours_R h cc) ?_
    rintro _ _ ⟨r, m, to, rfl, l1, rfl⟩
    have hml : m.length ≤ 1048577 := by omega
    cases hg : ahOk r m to
    · simp -dsimp -implicitDefEqProofs (disch := omega) [go_sem, -List.getD_eq_getElem?_getD, ite_yes]
      refine ACall.of (iHours_bad r m to hml hg _ _ _ (Sl.of rfl)) ?_
      simp -dsimp -implicitDefEqProofs (disch := omega) [go_sem, -List.getD_eq_getElem?_getD, ite_yes]
      refine ACall.of (sHours_bad r m to hml hg _ _ _ (Sl.of rfl)) ?_
      simp -dsimp -implicitDefEqProofs (disch := omega) [go_sem, -List.getD_eq_getElem?_getD, ite_yes]
      exact ⟨weakS_drop (by simp -dsimp -implicitDefEqProofs (disch := omega) [go_sem, -List.getD_eq_getElem?_getD, ite_yes, ht])⟩
    · have hb := ahN_rng hg
      have A1 := fun c H t => iHours_good r m to hml hg c H t
      have A2 := fun c H t => sHours_good r m to hml hg c H t
      generalize ahN r m to = x at *
      have b0 : ¬ x < 0 := by omega
      have b1 : ¬ to < x := by omega
      simp -dsimp -implicitDefEqProofs (disch := omega) [go_sem, -List.getD_eq_getElem?_getD, ite_yes]
      refine ACall.of (A1 _ _ _ (Sl.of rfl)) ?_
      simp -dsimp -implicitDefEqProofs (disch := omega) [go_sem, -List.getD_eq_getElem?_getD, ite_yes]
      refine ACall.of (A2 _ _ _ (Sl.of rfl)) ?_
      simp -dsimp -implicitDefEqProofs (disch := omega) [go_sem, -List.getD_eq_getElem?_getD, ite_yes, b0, b1]
      exact ⟨weakS_drop (by simp -dsimp -implicitDefEqProofs (disch := omega) [go_sem, -List.getD_eq_getElem?_getD, ite_yes, ht])⟩
  simp only [AWp_drop, AWp_drop0]
  refine AWp.step 4 [(0, .slice (some ⟨tc, 0, none⟩) n cc)] H (by kernel_rfl) (by kernel_rfl) ?_ ?_
  · simp -dsimp -implicitDefEqProofs (disch := omega) [go_sem, -List.getD_eq_getElem?_getD, ite_yes]
    refine ACall.via (drawKindAfter_R h cc) ?_
    rintro _ _ ⟨r, k, x, rfl, rfl⟩
    cases hg : kaOk r k x
    · have A1 := fun H => iKindAfter_A r k x H
      have A2 := fun H => sKindAfter_A r k x H
      rw [hg] at A1 A2
      simp -dsimp -implicitDefEqProofs (disch := omega) [go_sem, -List.getD_eq_getElem?_getD, ite_yes]
      refine ACall.of (A1 _) ?_
      simp -dsimp -implicitDefEqProofs (disch := omega) [go_sem, -List.getD_eq_getElem?_getD, ite_yes]
      refine ACall.of (A2 _) ?_
      simp -dsimp -implicitDefEqProofs (disch := omega) [go_sem, -List.getD_eq_getElem?_getD, ite_yes]
      exact ⟨weakS_drop (by simp -dsimp -implicitDefEqProofs (disch := omega) [go_sem, -List.getD_eq_getElem?_getD, ite_yes, ht])⟩
    · obtain ⟨k1, k2, k3⟩ := kaN_twice hg
      have A1 := fun H => iKindAfter_A r k x H
      have A2 := fun H => sKindAfter_A r k x H
      have A3 := fun H => iKindAfter_A r (kindN r k x) x H
      rw [k2, hg] at A1 A2
      rw [k3, k1] at A3
      generalize kindN r k x = y at *
      simp -dsimp -implicitDefEqProofs (disch := omega) [go_sem, -List.getD_eq_getElem?_getD, ite_yes]
      refine ACall.of (A1 _) ?_
      simp -dsimp -implicitDefEqProofs (disch := omega) [go_sem, -List.getD_eq_getElem?_getD, ite_yes]
      refine ACall.of (A2 _) ?_
      simp -dsimp -implicitDefEqProofs (disch := omega) [go_sem, -List.getD_eq_getElem?_getD, ite_yes]
      refine ACall.of (A3 _) ?_
      simp -dsimp -implicitDefEqProofs (disch := omega) [go_sem, -List.getD_eq_getElem?_getD, ite_yes]
      exact ⟨weakS_drop (by simp -dsimp -implicitDefEqProofs (disch := omega) [go_sem, -List.getD_eq_getElem?_getD, ite_yes, ht])⟩
  simp only [AWp_drop, AWp_drop0]
  refine AWp.last (by kernel_rfl) ?_
  simp -dsimp -implicitDefEqProofs (disch := omega) [go_sem, -List.getD_eq_getElem?_getD, ite_yes]
  refine ACall.via (drawUnseenNodes_R h cc) ?_
  rintro _ _ ⟨l, rfl, l1, rfl⟩
  have hll : l.length ≤ 1048577 := by omega
  cases hg : goodA l
  · simp -dsimp -implicitDefEqProofs (disch := omega) [go_sem, -List.getD_eq_getElem?_getD, ite_yes]
    refine ACall.of (iUnseen_bad l hll _ _ _ (Sl.of rfl) hg) ?_
    simp -dsimp -implicitDefEqProofs (disch := omega) [go_sem, -List.getD_eq_getElem?_getD, ite_yes]
    refine ACall.of (sUnseen_bad l hll _ _ _ (Sl.of rfl) hg) ?_
    simp -dsimp -implicitDefEqProofs (disch := omega) [go_sem, -List.getD_eq_getElem?_getD, ite_yes]
    refine ACall.of (vInts_nil _ _ _) ?_
    simp -dsimp -implicitDefEqProofs (disch := omega) [go_sem, -List.getD_eq_getElem?_getD, ite_yes]
    exact fin_flat rfl rfl
  have ul := unN_length l
  have A3 := fun c H t hS => iUnseen_good l hll c H t hS hg
  have A4 := fun c H t hS => sUnseen_good l hll c H t hS hg
  have hul : (unN l).length ≤ 1048577 := by omega
  generalize unN l = u at *
  simp -dsimp -implicitDefEqProofs (disch := omega) [go_sem, -List.getD_eq_getElem?_getD, ite_yes]
  refine ACall.of (A3 _ _ _ (Sl.of rfl)) ?_
  simp -dsimp -implicitDefEqProofs (disch := omega) [go_sem, -List.getD_eq_getElem?_getD, ite_yes]
  refine ACall.of (A4 _ _ _ (Sl.of rfl)) ?_
  simp -dsimp -implicitDefEqProofs (disch := omega) [go_sem, -List.getD_eq_getElem?_getD, ite_yes]
  refine ACall.of (vInts_same u hul _ _ _ _ _ (Sl.nth 1 rfl rfl) (Sl.nth 2 rfl rfl)) ?_
  simp -dsimp -implicitDefEqProofs (disch := omega) [go_sem, -List.getD_eq_getElem?_getD, ite_yes]
  exact fin_flat rfl rfl
end Go.Proofs.Ytokafhinmakdnaa
