/- TakeReadings: both sides, and the law. -/
import Derived.Test.YtokafhinmakdnaaTakeRd
import Derived.Test.YtokafhinmakdnaaAlarmHours
namespace Go.Proofs.Ytokafhinmakdnaa
open Go.Am
set_option linter.unusedVariables false
set_option linter.unusedSimpArgs false
set_option maxRecDepth 100000
set_option maxHeartbeats 4000000
abbrev gD : Rg := (0, 0, 0)
noncomputable def takesTo (rs : List Ar) (l : List Al) (m : List Rg) : Nat → List Al
  | 0 => l
  | k + 1 => takeL rs (takesTo rs l m k) (m.getD k gD)
theorem takesTo_ord {rs : List Ar} {l : List Al} {m : List Rg} (h : Ord l) (hm : ∀ k, k < m.length → isRg (m.getD k gD) = true) : ∀ k, k ≤ m.length → Ord (takesTo rs l m k)
  | 0, _ => h
  | k + 1, hk => takeL_ord (takesTo_ord h hm k (by omega)) (hm k (by omega))
theorem listOk_at {m : List Rg} (h : listOk m = true) : ∀ k, k < m.length → isRg (m.getD k gD) = true := fun k hk => by
  simp only [listOk, Bool.and_eq_true] at h
  exact (asc_at (by first | exact h.1 | exact h.2) k hk).1
def takesOk (rs : List Ar) (l : List Al) (m : List Rg) : Bool := goodR rs && (goodA l && listOk m)
theorem takesOk_at {rs : List Ar} {l : List Al} {m : List Rg} (h : takesOk rs l m = true) : goodR rs = true ∧ goodA l = true ∧ listOk m = true := by simpa [takesOk] using h
theorem takesTo_small {rs : List Ar} {l : List Al} {m : List Rg} (h : takesOk rs l m = true) (k : Nat) (hk : k ≤ m.length) : (takesTo rs l m k).length ≤ 8 := by
  obtain ⟨h1, h2, h3⟩ := takesOk_at h
  exact goodA_len (goodA_ord.2 (takesTo_ord (goodA_ord.1 h2) (listOk_at h3) k hk))
theorem iTakes_bad (rs : List Ar) (l : List Al) (m : List Rg) (hrl : rs.length ≤ 1048577) (hl : l.length ≤ 1048577) (hm : m.length ≤ 1048577) (hg : takesOk rs l m = false) (c0 c1 c2 : Nat) (H : Heap) (t0 t1 t2 : Nat) (hR : Sl arE H t0 rs) (hS : Sl alE H t1 l) (hM : Sl rgE H t2 m) :
    AFunC Try.prog 21 [.slice (some ⟨t0, 0, none⟩) rs.length c0, .slice (some ⟨t1, 0, none⟩) l.length c1, .slice (some ⟨t2, 0, none⟩) m.length c2] H (.tuple #[.slice none 0 0, .bool false]) H := by
  refine AFunC.of_body Try.func21 (by kernel_rfl) rfl (by kernel_rfl) (by simp [Try.ntmps21]) ?_
  simp -dsimp -implicitDefEqProofs (disch := omega) [go_sem, -List.getD_eq_getElem?_getD, ite_yes]
  refine ACall.of (iAreRules_A rs hrl _ _ _ hR) ?_
  cases h1 : goodR rs
  · simp -dsimp -implicitDefEqProofs (disch := omega) [go_sem, -List.getD_eq_getElem?_getD, ite_yes]
    exact fin_flat0 rfl rfl
  simp -dsimp -implicitDefEqProofs (disch := omega) [go_sem, -List.getD_eq_getElem?_getD, ite_yes]
  refine ACall.of (areAlarms_A l hl _ _ _ hS) ?_
  cases h2 : goodA l
  · simp -dsimp -implicitDefEqProofs (disch := omega) [go_sem, -List.getD_eq_getElem?_getD, ite_yes]
    exact fin_flat0 rfl rfl
  simp -dsimp -implicitDefEqProofs (disch := omega) [go_sem, -List.getD_eq_getElem?_getD, ite_yes]
  refine ACall.of (areNodeReadings_A m hm _ _ _ hM) ?_
  cases h3 : listOk m
  · simp -dsimp -implicitDefEqProofs (disch := omega) [go_sem, -List.getD_eq_getElem?_getD, ite_yes]
    exact fin_flat0 rfl rfl
  · simp [takesOk, h1, h2, h3] at hg
theorem sTakes_bad (rs : List Ar) (l : List Al) (m : List Rg) (hrl : rs.length ≤ 1048577) (hl : l.length ≤ 1048577) (hm : m.length ≤ 1048577) (hg : takesOk rs l m = false) (c0 c1 c2 : Nat) (H : Heap) (t0 t1 t2 : Nat) (hR : Sl arE H t0 rs) (hS : Sl alE H t1 l) (hM : Sl rgE H t2 m) :
    AFunC Try.prog 19 [.slice (some ⟨t0, 0, none⟩) rs.length c0, .slice (some ⟨t1, 0, none⟩) l.length c1, .slice (some ⟨t2, 0, none⟩) m.length c2] H (.tuple #[.slice (some ⟨H.length, 0, none⟩) 0 0, .bool false]) (H ++ [some ⟨[], true, 74, 4⟩]) := by
  refine AFunC.of_body Try.func19 (by kernel_rfl) rfl (by kernel_rfl) (by simp [Try.ntmps19]) ?_
  simp -dsimp -implicitDefEqProofs (disch := omega) [go_sem, -List.getD_eq_getElem?_getD, ite_yes]
  refine ACall.of (l21Rules_A rs hrl _ _ _ hR) ?_
  cases h1 : goodR rs
  · simp -dsimp -implicitDefEqProofs (disch := omega) [go_sem, -List.getD_eq_getElem?_getD, ite_yes]
    refine fin_list [some 0] rfl ?_ (by simp -dsimp -implicitDefEqProofs (disch := omega) [go_sem, -List.getD_eq_getElem?_getD, ite_yes])
    simp -dsimp -implicitDefEqProofs (disch := omega) [go_sem, -List.getD_eq_getElem?_getD, ite_yes]
    exact .inl ⟨rfl, rfl⟩
  simp -dsimp -implicitDefEqProofs (disch := omega) [go_sem, -List.getD_eq_getElem?_getD, ite_yes]
  refine ACall.of (l21Alarms_A l hl _ _ _ hS) ?_
  cases h2 : goodA l
  · simp -dsimp -implicitDefEqProofs (disch := omega) [go_sem, -List.getD_eq_getElem?_getD, ite_yes]
    refine fin_list [some 0] rfl ?_ (by simp -dsimp -implicitDefEqProofs (disch := omega) [go_sem, -List.getD_eq_getElem?_getD, ite_yes])
    simp -dsimp -implicitDefEqProofs (disch := omega) [go_sem, -List.getD_eq_getElem?_getD, ite_yes]
    exact .inl ⟨rfl, rfl⟩
  simp -dsimp -implicitDefEqProofs (disch := omega) [go_sem, -List.getD_eq_getElem?_getD, ite_yes]
  refine ACall.of (l21List_A m hm _ _ _ hM) ?_
  cases h3 : listOk m
  · simp -dsimp -implicitDefEqProofs (disch := omega) [go_sem, -List.getD_eq_getElem?_getD, ite_yes]
    refine fin_list [some 0] rfl ?_ (by simp -dsimp -implicitDefEqProofs (disch := omega) [go_sem, -List.getD_eq_getElem?_getD, ite_yes])
    simp -dsimp -implicitDefEqProofs (disch := omega) [go_sem, -List.getD_eq_getElem?_getD, ite_yes]
    exact .inl ⟨rfl, rfl⟩
  · simp [takesOk, h1, h2, h3] at hg
theorem iTakes_good (rs : List Ar) (l : List Al) (m : List Rg) (hrl : rs.length ≤ 1048577) (hl : l.length ≤ 1048577) (hm : m.length ≤ 1048577) (hg : takesOk rs l m = true) (c0 c1 c2 : Nat) (H : Heap) (t0 t1 t2 : Nat) (hR : Sl arE H t0 rs) (hS : Sl alE H t1 l) (hM : Sl rgE H t2 m) :
    AFunC Try.prog 21 [.slice (some ⟨t0, 0, none⟩) rs.length c0, .slice (some ⟨t1, 0, none⟩) l.length c1, .slice (some ⟨t2, 0, none⟩) m.length c2] H (.tuple #[.slice (some ⟨H.length, 0, none⟩) (takesTo rs l m m.length).length (takesTo rs l m m.length).length, .bool true]) (H ++ [some ⟨(takesTo rs l m m.length).flatMap alE, true, 74, 4⟩]) := by
  refine AFunC.of_body Try.func21 (by kernel_rfl) rfl (by kernel_rfl) (by simp [Try.ntmps21]) ?_
  have ht0 := hR.lt
  have ht1 := hS.lt
  have ht2 := hM.lt
  obtain ⟨h1, h2, h3⟩ := takesOk_at hg
  have hok := listOk_at h3
  have l8 := goodA_len h2
  have al := hS.all (s := 4) (fun _ => rfl)
  have lf := alE_length l
  have cs := fun k hk => hM.cells (s := 3) (fun _ => rfl) gD k hk
  simp only [rgE] at cs
  simp -dsimp -implicitDefEqProofs (disch := omega) [go_sem, -List.getD_eq_getElem?_getD, ite_yes]
  refine ACall.of (iAreRules_A rs hrl _ _ _ hR) ?_
  simp -dsimp -implicitDefEqProofs (disch := omega) [go_sem, -List.getD_eq_getElem?_getD, ite_yes, h1]
  refine ACall.of (areAlarms_A l hl _ _ _ hS) ?_
  simp -dsimp -implicitDefEqProofs (disch := omega) [go_sem, -List.getD_eq_getElem?_getD, ite_yes, h2]
  refine ACall.of (areNodeReadings_A m hm _ _ _ hM) ?_
  simp -dsimp -implicitDefEqProofs (disch := omega) [go_sem, -List.getD_eq_getElem?_getD, ite_yes, h3, al, lf, ht1]
  refine ⟨by omega, ?_⟩
  refine ALoop.intro (ι := Nat) (fun k => k ≤ m.length) (fun k => [(0, .slice (some ⟨t0, 0, none⟩) rs.length c0), (8, .slice (some ⟨H.length, 0, none⟩) (takesTo rs l m k).length (takesTo rs l m k).length), (27, .slice (some ⟨t2, 0, none⟩) m.length c2), (28, .int .i64 m.length), (29, .int .i64 k)])
    (fun k => H ++ [some ⟨(takesTo rs l m k).flatMap alE, true, 74, 4⟩]) (fun k => m.length - k) 0 (by omega) ?_ ?_
  · refine weakS_mk [some 1] rfl ?_ (by simp -dsimp -implicitDefEqProofs (disch := omega) [go_sem, -List.getD_eq_getElem?_getD, ite_yes, ht0, ht1, ht2, takesTo])
    simp -dsimp -implicitDefEqProofs (disch := omega) [go_sem, -List.getD_eq_getElem?_getD, ite_yes]
    exact .inl ⟨rfl, alE_flat _⟩
  intro k hk
  have e : takesTo rs l m (k + 1) = takeL rs (takesTo rs l m k) (m.getD k gD) := rfl
  have ok := takesTo_ord (rs := rs) (goodA_ord.1 h2) hok k hk
  have t8 := takesTo_small hg k hk
  by_cases hlt : k < m.length
  · have hlti : (k : Int) < (m.length : Int) := by omega
    have c := cs k hlt
    generalize hG : takesTo rs l m k = G at *
    obtain ⟨r, hr⟩ : ∃ r, m.getD k gD = r := ⟨_, rfl⟩
    rw [hr] at c e
    simp -dsimp -implicitDefEqProofs (disch := omega) [go_sem, -List.getD_eq_getElem?_getD, ite_yes, hlt, hlti, c, ht2]
    refine ACall.of (iTake_A rs G r.1 r.2.1 r.2.2 hrl h1 ok (by omega) _ _ _ _ _ hR.app (Sl.of rfl)) ?_
    simp -dsimp -implicitDefEqProofs (disch := omega) [go_sem, -List.getD_eq_getElem?_getD, ite_yes]
    refine LoopEnd.of (k + 1) (by omega) (by omega) (weakS_mk [some 2] rfl ?_ (by simp -dsimp -implicitDefEqProofs (disch := omega) [go_sem, -List.getD_eq_getElem?_getD, ite_yes, ht0, ht1, ht2, e]))
    simp -dsimp -implicitDefEqProofs (disch := omega) [go_sem, -List.getD_eq_getElem?_getD, ite_yes, e]
    exact .inl ⟨rfl, alE_flat _⟩
  · have hlti : ¬ (k : Int) < (m.length : Int) := by omega
    obtain rfl : k = m.length := by omega
    simp -dsimp -implicitDefEqProofs (disch := omega) [go_sem, -List.getD_eq_getElem?_getD, ite_yes, hlti]
    refine fin_list [some 0] rfl ?_ (by simp -dsimp -implicitDefEqProofs (disch := omega) [go_sem, -List.getD_eq_getElem?_getD, ite_yes])
    simp -dsimp -implicitDefEqProofs (disch := omega) [go_sem, -List.getD_eq_getElem?_getD, ite_yes]
    exact .inl ⟨rfl, alE_flat _⟩
theorem sTakes_good (rs : List Ar) (l : List Al) (m : List Rg) (hrl : rs.length ≤ 1048577) (hl : l.length ≤ 1048577) (hm : m.length ≤ 1048577) (hg : takesOk rs l m = true) (c0 c1 c2 : Nat) (H : Heap) (t0 t1 t2 : Nat) (hR : Sl arE H t0 rs) (hS : Sl alE H t1 l) (hM : Sl rgE H t2 m) :
    AFunC Try.prog 19 [.slice (some ⟨t0, 0, none⟩) rs.length c0, .slice (some ⟨t1, 0, none⟩) l.length c1, .slice (some ⟨t2, 0, none⟩) m.length c2] H (.tuple #[.slice (some ⟨H.length, 0, none⟩) (takesTo rs l m m.length).length (takesTo rs l m m.length).length, .bool true]) (H ++ [some ⟨(takesTo rs l m m.length).flatMap alE, true, 74, 4⟩]) := by
  refine AFunC.of_body Try.func19 (by kernel_rfl) rfl (by kernel_rfl) (by simp [Try.ntmps19]) ?_
  have ht0 := hR.lt
  have ht1 := hS.lt
  have ht2 := hM.lt
  obtain ⟨h1, h2, h3⟩ := takesOk_at hg
  have hok := listOk_at h3
  have l8 := goodA_len h2
  have al := hS.all (s := 4) (fun _ => rfl)
  have lf := alE_length l
  have cs := fun k hk => hM.cells (s := 3) (fun _ => rfl) gD k hk
  simp only [rgE] at cs
  simp -dsimp -implicitDefEqProofs (disch := omega) [go_sem, -List.getD_eq_getElem?_getD, ite_yes]
  refine ACall.of (l21Rules_A rs hrl _ _ _ hR) ?_
  simp -dsimp -implicitDefEqProofs (disch := omega) [go_sem, -List.getD_eq_getElem?_getD, ite_yes, h1]
  refine ACall.of (l21Alarms_A l hl _ _ _ hS) ?_
  simp -dsimp -implicitDefEqProofs (disch := omega) [go_sem, -List.getD_eq_getElem?_getD, ite_yes, h2]
  refine ACall.of (l21List_A m hm _ _ _ hM) ?_
  simp -dsimp -implicitDefEqProofs (disch := omega) [go_sem, -List.getD_eq_getElem?_getD, ite_yes, h3, al, lf, ht1]
  refine ⟨by omega, ?_⟩
  refine ALoop.intro (ι := Nat) (fun k => k ≤ m.length) (fun k => [(0, .slice (some ⟨t0, 0, none⟩) rs.length c0), (2, .slice (some ⟨t2, 0, none⟩) m.length c2), (8, .slice (some ⟨H.length, 0, none⟩) (takesTo rs l m k).length (takesTo rs l m k).length), (9, .int .i64 k)])
    (fun k => H ++ [some ⟨(takesTo rs l m k).flatMap alE, true, 74, 4⟩]) (fun k => m.length - k) 0 (by omega) ?_ ?_
  · refine weakS_mk [some 1] rfl ?_ (by simp -dsimp -implicitDefEqProofs (disch := omega) [go_sem, -List.getD_eq_getElem?_getD, ite_yes, ht0, ht1, ht2, takesTo])
    simp -dsimp -implicitDefEqProofs (disch := omega) [go_sem, -List.getD_eq_getElem?_getD, ite_yes]
    exact .inl ⟨rfl, alE_flat _⟩
  intro k hk
  have e : takesTo rs l m (k + 1) = takeL rs (takesTo rs l m k) (m.getD k gD) := rfl
  have ok := takesTo_ord (rs := rs) (goodA_ord.1 h2) hok k hk
  have t8 := takesTo_small hg k hk
  by_cases hlt : k < m.length
  · have hlti : (k : Int) < (m.length : Int) := by omega
    have c := cs k hlt
    generalize hG : takesTo rs l m k = G at *
    obtain ⟨r, hr⟩ : ∃ r, m.getD k gD = r := ⟨_, rfl⟩
    rw [hr] at c e
    simp -dsimp -implicitDefEqProofs (disch := omega) [go_sem, -List.getD_eq_getElem?_getD, ite_yes, hlt, hlti, c, ht2]
    refine ACall.of (sTake_A rs G r.1 r.2.1 r.2.2 hrl h1 ok (by omega) _ _ _ _ _ hR.app (Sl.of rfl) (by rw [blkSz_len]; rfl)) ?_
    simp -dsimp -implicitDefEqProofs (disch := omega) [go_sem, -List.getD_eq_getElem?_getD, ite_yes]
    refine LoopEnd.of (k + 1) (by omega) (by omega) (weakS_mk [some 1] rfl ?_ (by simp -dsimp -implicitDefEqProofs (disch := omega) [go_sem, -List.getD_eq_getElem?_getD, ite_yes, ht0, ht1, ht2, e]))
    simp -dsimp -implicitDefEqProofs (disch := omega) [go_sem, -List.getD_eq_getElem?_getD, ite_yes, e]
    exact .inl ⟨rfl, alE_flat _⟩
  · have hlti : ¬ (k : Int) < (m.length : Int) := by omega
    obtain rfl : k = m.length := by omega
    simp -dsimp -implicitDefEqProofs (disch := omega) [go_sem, -List.getD_eq_getElem?_getD, ite_yes, hlti]
    refine fin_list [some 0] rfl ?_ (by simp -dsimp -implicitDefEqProofs (disch := omega) [go_sem, -List.getD_eq_getElem?_getD, ite_yes])
    simp -dsimp -implicitDefEqProofs (disch := omega) [go_sem, -List.getD_eq_getElem?_getD, ite_yes]
    exact .inl ⟨rfl, alE_flat _⟩
theorem takes_le {rs : List Ar} {l : List Al} {m : List Rg} (h : takesOk rs l m = true) : (takesTo rs l m m.length).length ≤ 1048577 := by
  have := takesTo_small h m.length (Nat.le_refl _)
  omega
theorem lawTakeReadings_A (rs : List Ar) (hl0 : rs.length ≤ 9223372036854775807) (c0 : Nat) (l : List Al) (hl1 : l.length ≤ 9223372036854775807) (c1 : Nat) (m : List Rg) (hl2 : m.length ≤ 9223372036854775807) (c2 : Nat) (H : Heap) (t0 : Nat) (hS0 : Sl arE H t0 rs) (t1 : Nat) (hS1 : Sl alE H t1 l) (t2 : Nat) (hS2 : Sl rgE H t2 m) :
    AFunC Try.prog 4 [.slice (some ⟨t0, 0, none⟩) rs.length c0, .slice (some ⟨t1, 0, none⟩) l.length c1, .slice (some ⟨t2, 0, none⟩) m.length c2] H (.bool true) H := by
  refine AFunC.of_body Try.func4 (by kernel_rfl) rfl (by kernel_rfl) (by simp [Try.ntmps4]) ?_
  have ht0 := hS0.lt
  have ht1 := hS1.lt
  have ht2 := hS2.lt
  simp -dsimp -implicitDefEqProofs (disch := omega) [go_sem, -List.getD_eq_getElem?_getD, ite_yes, ht0, ht1, ht2]
  refine ACall.of (szAr_A rs.length c0 (by omega) _ (by omega) (by omega) t0 _) ?_
  simp -dsimp -implicitDefEqProofs (disch := omega) [go_sem, -List.getD_eq_getElem?_getD, ite_yes, ht0, ht1, ht2]
  refine AIf.of (fun h => ?_) (fun h => ?_)
  · simp -dsimp -implicitDefEqProofs (disch := omega) [go_sem, -List.getD_eq_getElem?_getD, ite_yes]
    first | exact fin_flat0 rfl rfl | exact fin_flat rfl rfl
  have hlen0 : rs.length ≤ 1048577 := by
    have := szAr_len (by simpa using h)
    omega
  simp -dsimp -implicitDefEqProofs (disch := omega) [go_sem, -List.getD_eq_getElem?_getD, ite_yes, ht0, ht1, ht2]
  have hz0 : 0 ≤ szAr rs.length 1048576 ∧ szAr rs.length 1048576 ≤ 1048576 := szAr_rng (by simpa using h) (by omega)
  refine ACall.of (szAl_A l.length c1 (by omega) _ (by omega) (by omega) t1 _) ?_
  simp -dsimp -implicitDefEqProofs (disch := omega) [go_sem, -List.getD_eq_getElem?_getD, ite_yes, ht0, ht1, ht2]
  refine AIf.of (fun h => ?_) (fun h => ?_)
  · simp -dsimp -implicitDefEqProofs (disch := omega) [go_sem, -List.getD_eq_getElem?_getD, ite_yes]
    first | exact fin_flat0 rfl rfl | exact fin_flat rfl rfl
  have hlen1 : l.length ≤ 1048577 := by
    have := szAl_len (by simpa using h)
    omega
  simp -dsimp -implicitDefEqProofs (disch := omega) [go_sem, -List.getD_eq_getElem?_getD, ite_yes, ht0, ht1, ht2]
  have hz1 : 0 ≤ szAl l.length (szAr rs.length 1048576) ∧ szAl l.length (szAr rs.length 1048576) ≤ 1048576 := szAl_rng (by simpa using h) (by omega)
  refine ACall.of (szRg_A m.length c2 (by omega) _ (by omega) (by omega) t2 _) ?_
  simp -dsimp -implicitDefEqProofs (disch := omega) [go_sem, -List.getD_eq_getElem?_getD, ite_yes, ht0, ht1, ht2]
  refine AIf.of (fun h => ?_) (fun h => ?_)
  · simp -dsimp -implicitDefEqProofs (disch := omega) [go_sem, -List.getD_eq_getElem?_getD, ite_yes]
    first | exact fin_flat0 rfl rfl | exact fin_flat rfl rfl
  have hlen2 : m.length ≤ 1048577 := by
    have := szRg_len (by simpa using h)
    omega
  simp -dsimp -implicitDefEqProofs (disch := omega) [go_sem, -List.getD_eq_getElem?_getD, ite_yes, ht0, ht1, ht2]
  rcases Bool.eq_false_or_eq_true (takesOk rs l m) with hg | hg
  · have hu := takes_le hg
    refine ACall.of (toArS_A rs hlen0 c0 _ t0 hS0) ?_
    simp -dsimp -implicitDefEqProofs (disch := omega) [go_sem, -List.getD_eq_getElem?_getD, ite_yes, ht0, ht1, ht2]
    refine ACall.of (toAlS_A l hlen1 c1 _ t1 hS1.app) ?_
    simp -dsimp -implicitDefEqProofs (disch := omega) [go_sem, -List.getD_eq_getElem?_getD, ite_yes, ht0, ht1, ht2]
    refine ACall.of (toRgS_A m hlen2 c2 _ t2 hS2.app) ?_
    simp -dsimp -implicitDefEqProofs (disch := omega) [go_sem, -List.getD_eq_getElem?_getD, ite_yes, ht0, ht1, ht2]
    refine ACall.of (sTakes_good rs l m hlen0 hlen1 hlen2 hg _ _ _ _ _ _ _ (Sl.of rfl) (Sl.nth 1 rfl rfl) (Sl.nth 2 rfl rfl)) ?_
    simp -dsimp -implicitDefEqProofs (disch := omega) [go_sem, -List.getD_eq_getElem?_getD, ite_yes, ht0, ht1, ht2]
    refine ACall.of (toArS_A rs hlen0 c0 _ t0 hS0.app) ?_
    simp -dsimp -implicitDefEqProofs (disch := omega) [go_sem, -List.getD_eq_getElem?_getD, ite_yes, ht0, ht1, ht2]
    refine ACall.of (toAlS_A l hlen1 c1 _ t1 hS1.app) ?_
    simp -dsimp -implicitDefEqProofs (disch := omega) [go_sem, -List.getD_eq_getElem?_getD, ite_yes, ht0, ht1, ht2]
    refine ACall.of (toRgS_A m hlen2 c2 _ t2 hS2.app) ?_
    simp -dsimp -implicitDefEqProofs (disch := omega) [go_sem, -List.getD_eq_getElem?_getD, ite_yes, ht0, ht1, ht2]
    refine ACall.of (iTakes_good rs l m hlen0 hlen1 hlen2 hg _ _ _ _ _ _ _ (Sl.nth 4 rfl rfl) (Sl.nth 5 rfl rfl) (Sl.nth 6 rfl rfl)) ?_
    simp -dsimp -implicitDefEqProofs (disch := omega) [go_sem, -List.getD_eq_getElem?_getD, ite_yes, ht0, ht1, ht2]
    refine ACall.of (eqAlS_A (takesTo rs l m m.length) (takesTo rs l m m.length) hu hu _ _ _ _ _ (Sl.nth 7 rfl rfl) (Sl.nth 3 rfl rfl)) ?_
    simp -dsimp -implicitDefEqProofs (disch := omega) [go_sem, -List.getD_eq_getElem?_getD, ite_yes, ht0, ht1, ht2]
    refine ACall.of (toArS_A rs hlen0 c0 _ t0 hS0.app) ?_
    simp -dsimp -implicitDefEqProofs (disch := omega) [go_sem, -List.getD_eq_getElem?_getD, ite_yes, ht0, ht1, ht2]
    refine ACall.of (eqArS_A rs rs hlen0 hlen0 _ _ _ _ _ (Sl.nth 4 rfl rfl) (Sl.nth 8 rfl rfl)) ?_
    simp -dsimp -implicitDefEqProofs (disch := omega) [go_sem, -List.getD_eq_getElem?_getD, ite_yes, ht0, ht1, ht2]
    refine ACall.of (toAlS_A l hlen1 c1 _ t1 hS1.app) ?_
    simp -dsimp -implicitDefEqProofs (disch := omega) [go_sem, -List.getD_eq_getElem?_getD, ite_yes, ht0, ht1, ht2]
    refine ACall.of (eqAlS_A l l hlen1 hlen1 _ _ _ _ _ (Sl.nth 5 rfl rfl) (Sl.nth 9 rfl rfl)) ?_
    simp -dsimp -implicitDefEqProofs (disch := omega) [go_sem, -List.getD_eq_getElem?_getD, ite_yes, ht0, ht1, ht2]
    refine ACall.of (toRgS_A m hlen2 c2 _ t2 hS2.app) ?_
    simp -dsimp -implicitDefEqProofs (disch := omega) [go_sem, -List.getD_eq_getElem?_getD, ite_yes, ht0, ht1, ht2]
    refine ACall.of (eqRgS_A m m hlen2 hlen2 _ _ _ _ _ (Sl.nth 6 rfl rfl) (Sl.nth 10 rfl rfl)) ?_
    simp -dsimp -implicitDefEqProofs (disch := omega) [go_sem, -List.getD_eq_getElem?_getD, ite_yes, ht0, ht1, ht2]
    refine ACall.of (markArS_A rs hlen0 _ _ _ (by omega) (by omega) _ _ ((Heap.get_len_add _ _ 4).trans rfl)) ?_
    simp -dsimp -implicitDefEqProofs (disch := omega) [go_sem, -List.getD_eq_getElem?_getD, ite_yes, ht0, ht1, ht2]
    refine ACall.of (markAlS_A l hlen1 _ _ _ (by omega) (by omega) _ _ ((Heap.get_len_add _ _ 5).trans rfl)) ?_
    simp -dsimp -implicitDefEqProofs (disch := omega) [go_sem, -List.getD_eq_getElem?_getD, ite_yes, ht0, ht1, ht2]
    refine ACall.of (markRgS_A m hlen2 _ _ _ (by omega) (by omega) _ _ ((Heap.get_len_add _ _ 6).trans rfl)) ?_
    simp -dsimp -implicitDefEqProofs (disch := omega) [go_sem, -List.getD_eq_getElem?_getD, ite_yes, ht0, ht1, ht2]
    refine AIf.of (fun h => absurd (of_decide_eq_true h) (by omega)) (fun _ => ?_)
    simp -dsimp -implicitDefEqProofs (disch := omega) [go_sem, -List.getD_eq_getElem?_getD, ite_yes, ht0, ht1, ht2]
    refine ACall.of (eqAlS_A (takesTo rs l m m.length) (takesTo rs l m m.length) hu hu _ _ _ _ _ (Sl.nth 7 rfl rfl) (Sl.nth 3 rfl rfl)) ?_
    simp -dsimp -implicitDefEqProofs (disch := omega) [go_sem, -List.getD_eq_getElem?_getD, ite_yes, ht0, ht1, ht2]
    refine ACall.of (markAlS_A (takesTo rs l m m.length) hu _ _ _ (by omega) (by omega) _ _ ((Heap.get_len_add _ _ 7).trans rfl)) ?_
    simp -dsimp -implicitDefEqProofs (disch := omega) [go_sem, -List.getD_eq_getElem?_getD, ite_yes, ht0, ht1, ht2]
    refine ACall.of (heldAlS_A _ hu _ _ (by omega) (by omega) _ _ (Sl.nth 7 rfl rfl)) ?_
    simp -dsimp -implicitDefEqProofs (disch := omega) [go_sem, -List.getD_eq_getElem?_getD, ite_yes, ht0, ht1, ht2]
    refine AIf.of (fun h => absurd (of_decide_eq_true h) (by omega)) (fun _ => ?_)
    simp -dsimp -implicitDefEqProofs (disch := omega) [go_sem, -List.getD_eq_getElem?_getD, ite_yes, ht0, ht1, ht2]
    refine ACall.of (toArS_A rs hlen0 c0 _ t0 hS0.app) ?_
    simp -dsimp -implicitDefEqProofs (disch := omega) [go_sem, -List.getD_eq_getElem?_getD, ite_yes, ht0, ht1, ht2]
    refine ACall.of (toAlS_A l hlen1 c1 _ t1 hS1.app) ?_
    simp -dsimp -implicitDefEqProofs (disch := omega) [go_sem, -List.getD_eq_getElem?_getD, ite_yes, ht0, ht1, ht2]
    refine ACall.of (toRgS_A m hlen2 c2 _ t2 hS2.app) ?_
    simp -dsimp -implicitDefEqProofs (disch := omega) [go_sem, -List.getD_eq_getElem?_getD, ite_yes, ht0, ht1, ht2]
    refine ACall.of (iTakes_good rs l m hlen0 hlen1 hlen2 hg _ _ _ _ _ _ _ (Sl.nth 11 rfl rfl) (Sl.nth 12 rfl rfl) (Sl.nth 13 rfl rfl)) ?_
    simp -dsimp -implicitDefEqProofs (disch := omega) [go_sem, -List.getD_eq_getElem?_getD, ite_yes, ht0, ht1, ht2]
    refine ACall.of (eqAlS_A (takesTo rs l m m.length) (takesTo rs l m m.length) hu hu _ _ _ _ _ (Sl.nth 14 rfl rfl) (Sl.nth 3 rfl rfl)) ?_
    simp -dsimp -implicitDefEqProofs (disch := omega) [go_sem, -List.getD_eq_getElem?_getD, ite_yes, ht0, ht1, ht2]
    refine ACall.of (heldAlS_A _ hu _ _ (by omega) (by omega) _ _ (Sl.nth 7 rfl rfl)) ?_
    simp -dsimp -implicitDefEqProofs (disch := omega) [go_sem, -List.getD_eq_getElem?_getD, ite_yes, ht0, ht1, ht2]
    refine AIf.of (fun h => absurd (of_decide_eq_true h) (by omega)) (fun _ => ?_)
    simp -dsimp -implicitDefEqProofs (disch := omega) [go_sem, -List.getD_eq_getElem?_getD, ite_yes, ht0, ht1, ht2]
    exact fin_flat rfl rfl
  · skip
    refine ACall.of (toArS_A rs hlen0 c0 _ t0 hS0) ?_
    simp -dsimp -implicitDefEqProofs (disch := omega) [go_sem, -List.getD_eq_getElem?_getD, ite_yes, ht0, ht1, ht2]
    refine ACall.of (toAlS_A l hlen1 c1 _ t1 hS1.app) ?_
    simp -dsimp -implicitDefEqProofs (disch := omega) [go_sem, -List.getD_eq_getElem?_getD, ite_yes, ht0, ht1, ht2]
    refine ACall.of (toRgS_A m hlen2 c2 _ t2 hS2.app) ?_
    simp -dsimp -implicitDefEqProofs (disch := omega) [go_sem, -List.getD_eq_getElem?_getD, ite_yes, ht0, ht1, ht2]
    refine ACall.of (sTakes_bad rs l m hlen0 hlen1 hlen2 hg _ _ _ _ _ _ _ (Sl.of rfl) (Sl.nth 1 rfl rfl) (Sl.nth 2 rfl rfl)) ?_
    simp -dsimp -implicitDefEqProofs (disch := omega) [go_sem, -List.getD_eq_getElem?_getD, ite_yes, ht0, ht1, ht2]
    refine ACall.of (toArS_A rs hlen0 c0 _ t0 hS0.app) ?_
    simp -dsimp -implicitDefEqProofs (disch := omega) [go_sem, -List.getD_eq_getElem?_getD, ite_yes, ht0, ht1, ht2]
    refine ACall.of (toAlS_A l hlen1 c1 _ t1 hS1.app) ?_
    simp -dsimp -implicitDefEqProofs (disch := omega) [go_sem, -List.getD_eq_getElem?_getD, ite_yes, ht0, ht1, ht2]
    refine ACall.of (toRgS_A m hlen2 c2 _ t2 hS2.app) ?_
    simp -dsimp -implicitDefEqProofs (disch := omega) [go_sem, -List.getD_eq_getElem?_getD, ite_yes, ht0, ht1, ht2]
    refine ACall.of (iTakes_bad rs l m hlen0 hlen1 hlen2 hg _ _ _ _ _ _ _ (Sl.nth 4 rfl rfl) (Sl.nth 5 rfl rfl) (Sl.nth 6 rfl rfl)) ?_
    simp -dsimp -implicitDefEqProofs (disch := omega) [go_sem, -List.getD_eq_getElem?_getD, ite_yes, ht0, ht1, ht2]
    refine ACall.of (eqAlS_nil _ _ _) ?_
    simp -dsimp -implicitDefEqProofs (disch := omega) [go_sem, -List.getD_eq_getElem?_getD, ite_yes, ht0, ht1, ht2]
    refine ACall.of (toArS_A rs hlen0 c0 _ t0 hS0.app) ?_
    simp -dsimp -implicitDefEqProofs (disch := omega) [go_sem, -List.getD_eq_getElem?_getD, ite_yes, ht0, ht1, ht2]
    refine ACall.of (eqArS_A rs rs hlen0 hlen0 _ _ _ _ _ (Sl.nth 4 rfl rfl) (Sl.nth 7 rfl rfl)) ?_
    simp -dsimp -implicitDefEqProofs (disch := omega) [go_sem, -List.getD_eq_getElem?_getD, ite_yes, ht0, ht1, ht2]
    refine ACall.of (toAlS_A l hlen1 c1 _ t1 hS1.app) ?_
    simp -dsimp -implicitDefEqProofs (disch := omega) [go_sem, -List.getD_eq_getElem?_getD, ite_yes, ht0, ht1, ht2]
    refine ACall.of (eqAlS_A l l hlen1 hlen1 _ _ _ _ _ (Sl.nth 5 rfl rfl) (Sl.nth 8 rfl rfl)) ?_
    simp -dsimp -implicitDefEqProofs (disch := omega) [go_sem, -List.getD_eq_getElem?_getD, ite_yes, ht0, ht1, ht2]
    refine ACall.of (toRgS_A m hlen2 c2 _ t2 hS2.app) ?_
    simp -dsimp -implicitDefEqProofs (disch := omega) [go_sem, -List.getD_eq_getElem?_getD, ite_yes, ht0, ht1, ht2]
    refine ACall.of (eqRgS_A m m hlen2 hlen2 _ _ _ _ _ (Sl.nth 6 rfl rfl) (Sl.nth 9 rfl rfl)) ?_
    simp -dsimp -implicitDefEqProofs (disch := omega) [go_sem, -List.getD_eq_getElem?_getD, ite_yes, ht0, ht1, ht2]
    refine ACall.of (markArS_A rs hlen0 _ _ _ (by omega) (by omega) _ _ ((Heap.get_len_add _ _ 4).trans rfl)) ?_
    simp -dsimp -implicitDefEqProofs (disch := omega) [go_sem, -List.getD_eq_getElem?_getD, ite_yes, ht0, ht1, ht2]
    refine ACall.of (markAlS_A l hlen1 _ _ _ (by omega) (by omega) _ _ ((Heap.get_len_add _ _ 5).trans rfl)) ?_
    simp -dsimp -implicitDefEqProofs (disch := omega) [go_sem, -List.getD_eq_getElem?_getD, ite_yes, ht0, ht1, ht2]
    refine ACall.of (markRgS_A m hlen2 _ _ _ (by omega) (by omega) _ _ ((Heap.get_len_add _ _ 6).trans rfl)) ?_
    simp -dsimp -implicitDefEqProofs (disch := omega) [go_sem, -List.getD_eq_getElem?_getD, ite_yes, ht0, ht1, ht2]
    refine AIf.of (fun h => absurd (of_decide_eq_true h) (by omega)) (fun _ => ?_)
    simp -dsimp -implicitDefEqProofs (disch := omega) [go_sem, -List.getD_eq_getElem?_getD, ite_yes, ht0, ht1, ht2]
    refine ACall.of (eqAlS_nil _ _ _) ?_
    simp -dsimp -implicitDefEqProofs (disch := omega) [go_sem, -List.getD_eq_getElem?_getD, ite_yes, ht0, ht1, ht2]
    refine ACall.of (markAlS_nil _ _) ?_
    simp -dsimp -implicitDefEqProofs (disch := omega) [go_sem, -List.getD_eq_getElem?_getD, ite_yes, ht0, ht1, ht2]
    refine ACall.of (heldAlS_nil _ _) ?_
    simp -dsimp -implicitDefEqProofs (disch := omega) [go_sem, -List.getD_eq_getElem?_getD, ite_yes, ht0, ht1, ht2]
    refine ACall.of (toArS_A rs hlen0 c0 _ t0 hS0.app) ?_
    simp -dsimp -implicitDefEqProofs (disch := omega) [go_sem, -List.getD_eq_getElem?_getD, ite_yes, ht0, ht1, ht2]
    refine ACall.of (toAlS_A l hlen1 c1 _ t1 hS1.app) ?_
    simp -dsimp -implicitDefEqProofs (disch := omega) [go_sem, -List.getD_eq_getElem?_getD, ite_yes, ht0, ht1, ht2]
    refine ACall.of (toRgS_A m hlen2 c2 _ t2 hS2.app) ?_
    simp -dsimp -implicitDefEqProofs (disch := omega) [go_sem, -List.getD_eq_getElem?_getD, ite_yes, ht0, ht1, ht2]
    refine ACall.of (iTakes_bad rs l m hlen0 hlen1 hlen2 hg _ _ _ _ _ _ _ (Sl.nth 10 rfl rfl) (Sl.nth 11 rfl rfl) (Sl.nth 12 rfl rfl)) ?_
    simp -dsimp -implicitDefEqProofs (disch := omega) [go_sem, -List.getD_eq_getElem?_getD, ite_yes, ht0, ht1, ht2]
    refine ACall.of (eqAlS_nil _ _ _) ?_
    simp -dsimp -implicitDefEqProofs (disch := omega) [go_sem, -List.getD_eq_getElem?_getD, ite_yes, ht0, ht1, ht2]
    refine ACall.of (heldAlS_nil _ _) ?_
    simp -dsimp -implicitDefEqProofs (disch := omega) [go_sem, -List.getD_eq_getElem?_getD, ite_yes, ht0, ht1, ht2]
    exact fin_flat rfl rfl
end Go.Proofs.Ytokafhinmakdnaa
