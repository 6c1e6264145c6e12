/- AlarmHours: both sides, and the law. -/
import Derived.Test.YtokafhinmakdnaaAlarmHoursLaw
namespace Go.Proofs.Ytokafhinmakdnaa
open Go.Am
set_option linter.unusedVariables false
set_option linter.unusedSimpArgs false
set_option maxRecDepth 100000
set_option maxHeartbeats 1000000

def listOk (l : List Rg) : Bool := goodRg l && decide (l.length ≤ 20)
abbrev goodRgTo (l : List Rg) (k : Nat) : Prop := ascTo (0, 0, 0) isRg rgR l k
theorem areNodeReadings_A (l : List Rg) (hl : l.length ≤ 1048577) (c : Nat) (H : Heap) (t : Nat) (hS : Sl rgE H t l) :
    AFunC Try.prog 50 [.slice (some ⟨t, 0, none⟩) l.length c] H (.bool (listOk l)) H := by
  refine AFunC.of_body Try.func50 (by kernel_rfl) rfl (by kernel_rfl) (by simp [Try.ntmps50]) ?_
  have ht := hS.lt
  have cs := fun k hk => hS.cells (s := 3) (fun _ => rfl) (0, 0, 0) k hk
  have csk := fun k hk => hS.cell (s := 3) (fun _ => rfl) (0, 0, 0) k 0 hk (by omega)
  simp only [Nat.add_zero, rgE] at csk cs
  simp -dsimp -implicitDefEqProofs (disch := omega) [go_sem, -List.getD_eq_getElem?_getD, ite_yes]
  by_cases h20 : l.length ≤ 20
  · have h20' : ¬ (20 : Int) < (l.length : Int) := by omega
    have h20'' : ¬ 20 < l.length := by omega
    simp -dsimp -implicitDefEqProofs (disch := omega) [go_sem, -List.getD_eq_getElem?_getD, ite_yes, h20', h20'']
    refine ALoop.intro (ι := Nat) (fun k => k ≤ l.length ∧ goodRgTo l k) (fun k => [(0, .slice (some ⟨t, 0, none⟩) l.length c), (8, .slice (some ⟨t, 0, none⟩) l.length c), (9, .int .i64 l.length), (10, .int .i64 k)]) (fun _ => H) (fun k => l.length - k) 0 ⟨by omega, ascTo_zero⟩ ?_ ?_
    · exact weakS_same (by simp -dsimp -implicitDefEqProofs (disch := omega) [go_sem, -List.getD_eq_getElem?_getD, ite_yes, ht])
    · rintro k ⟨hk, hg⟩
      by_cases hlt : k < l.length
      · simp -dsimp -implicitDefEqProofs (disch := omega) [go_sem, -List.getD_eq_getElem?_getD, ite_yes, hlt, cs, ht]
        refine ADraw.quiet (by kernel_rfl) (by kernel_rfl) (by kernel_rfl) ?_
        simp -dsimp -implicitDefEqProofs (disch := omega) [go_sem, -List.getD_eq_getElem?_getD, ite_yes, hlt, cs, csk, ht]
        refine ACallQ.of (isNodeReading_A (l.getD k (0, 0, 0)) _) rfl ?_
        simp -dsimp -implicitDefEqProofs (disch := omega) [go_sem, -List.getD_eq_getElem?_getD, ite_yes, hlt, cs, csk, ht]
        refine AIf.of (fun h1 => ?_) (fun h1 => ?_)
        · simp -dsimp -implicitDefEqProofs (disch := omega) [go_sem, -List.getD_eq_getElem?_getD, ite_yes, hlt, cs, csk]
          exact fin_flat rfl (by simp only [listOk, goodRg]; rw [asc_no hlt (.inl (by simpa using h1))]; rfl)
        · simp -dsimp -implicitDefEqProofs (disch := omega) [go_sem, -List.getD_eq_getElem?_getD, ite_yes, hlt, cs, csk]
          refine AIf.of (fun h2 => ?_) (fun h2 => ?_)
          · simp at h2
            simp -dsimp -implicitDefEqProofs (disch := omega) [go_sem, -List.getD_eq_getElem?_getD, ite_yes, hlt, cs, csk, ht]
            refine AIf.of (fun h3 => ?_) (fun h3 => ?_)
            · simp -dsimp -implicitDefEqProofs (disch := omega) [go_sem, -List.getD_eq_getElem?_getD, ite_yes, hlt, cs, csk]
              exact fin_flat rfl (by simp only [listOk, goodRg]; rw [asc_no hlt (.inr ⟨h2, by simpa [rgR] using h3⟩)]; rfl)
            · simp -dsimp -implicitDefEqProofs (disch := omega) [go_sem, -List.getD_eq_getElem?_getD, ite_yes, hlt, cs, csk]
              exact LoopEnd.of (k + 1) ⟨by omega, hg.next (by simpa using h1) fun _ => by simpa [rgR] using h3⟩ (by omega) (weakS_drop (by simp -dsimp -implicitDefEqProofs (disch := omega) [go_sem, -List.getD_eq_getElem?_getD, ite_yes, ht]))
          · simp at h2
            simp -dsimp -implicitDefEqProofs (disch := omega) [go_sem, -List.getD_eq_getElem?_getD, ite_yes, hlt, cs, csk]
            exact LoopEnd.of (k + 1) ⟨by omega, hg.next (by simpa using h1) fun h => by omega⟩ (by omega) (weakS_drop (by simp -dsimp -implicitDefEqProofs (disch := omega) [go_sem, -List.getD_eq_getElem?_getD, ite_yes, ht]))
      · simp -dsimp -implicitDefEqProofs (disch := omega) [go_sem, -List.getD_eq_getElem?_getD, ite_yes, hlt]
        obtain rfl : k = l.length := by omega
        exact fin_flat0 rfl (by simp only [listOk, goodRg]; rw [asc_yes hg, decide_eq_true h20]; rfl)
  · have h20' : (20 : Int) < (l.length : Int) := by omega
    have h20'' : 20 < l.length := by omega
    simp -dsimp -implicitDefEqProofs (disch := omega) [go_sem, -List.getD_eq_getElem?_getD, ite_yes, h20', h20'']
    exact fin_flat0 rfl (by simp only [listOk]; rw [decide_eq_false h20, Bool.and_false])
theorem l21List_A (l : List Rg) (hl : l.length ≤ 1048577) (c : Nat) (H : Heap) (t : Nat) (hS : Sl rgE H t l) :
    AFunC Try.prog 49 [.slice (some ⟨t, 0, none⟩) l.length c] H (.bool (listOk l)) H := by
  refine AFunC.of_body Try.func49 (by kernel_rfl) rfl (by kernel_rfl) (by simp [Try.ntmps49]) ?_
  have ht := hS.lt
  have cs := fun k hk => hS.cells (s := 3) (fun _ => rfl) (0, 0, 0) k hk
  have csk := fun k hk => hS.cell (s := 3) (fun _ => rfl) (0, 0, 0) k 0 hk (by omega)
  simp only [Nat.add_zero, rgE] at csk cs
  simp -dsimp -implicitDefEqProofs (disch := omega) [go_sem, -List.getD_eq_getElem?_getD, ite_yes]
  refine ALoop.intro (ι := Nat) (fun k => k ≤ l.length ∧ k ≤ 21 ∧ goodRgTo l k) (fun k => [(0, .slice (some ⟨t, 0, none⟩) l.length c), (3, .int .i64 k)]) (fun _ => H) (fun k => l.length - k) 0 ⟨by omega, by omega, ascTo_zero⟩ ?_ ?_
  · exact weakS_same (by simp -dsimp -implicitDefEqProofs (disch := omega) [go_sem, -List.getD_eq_getElem?_getD, ite_yes, ht])
  · rintro k ⟨hk, hk2, hg⟩
    by_cases hlt : k < l.length
    · by_cases h20 : k ≤ 20
      · have h20' : (k : Int) ≤ 20 := by omega
        simp -dsimp -implicitDefEqProofs (disch := omega) [go_sem, -List.getD_eq_getElem?_getD, ite_yes, hlt, h20, h20', cs, ht]
        refine ADraw.quiet (by kernel_rfl) (by kernel_rfl) (by kernel_rfl) ?_
        simp -dsimp -implicitDefEqProofs (disch := omega) [go_sem, -List.getD_eq_getElem?_getD, ite_yes, hlt, cs, csk, ht]
        refine ACallQ.of (l21Reading_A (l.getD k (0, 0, 0)) _) rfl ?_
        simp -dsimp -implicitDefEqProofs (disch := omega) [go_sem, -List.getD_eq_getElem?_getD, ite_yes, hlt, cs, csk, ht]
        refine AIf.of (fun h1 => ?_) (fun h1 => ?_)
        · simp -dsimp -implicitDefEqProofs (disch := omega) [go_sem, -List.getD_eq_getElem?_getD, ite_yes, hlt, cs, csk]
          exact fin_flat0 rfl (by simp only [listOk, goodRg]; rw [asc_no hlt (.inl (by simpa using h1))]; rfl)
        · simp -dsimp -implicitDefEqProofs (disch := omega) [go_sem, -List.getD_eq_getElem?_getD, ite_yes, hlt, cs, csk]
          refine AIf.of (fun h2 => ?_) (fun h2 => ?_)
          · simp at h2
            simp -dsimp -implicitDefEqProofs (disch := omega) [go_sem, -List.getD_eq_getElem?_getD, ite_yes, hlt, cs, csk, ht]
            refine AIf.of (fun h3 => ?_) (fun h3 => ?_)
            · simp -dsimp -implicitDefEqProofs (disch := omega) [go_sem, -List.getD_eq_getElem?_getD, ite_yes, hlt, cs, csk]
              exact fin_flat0 rfl (by simp only [listOk, goodRg]; rw [asc_no hlt (.inr ⟨h2, by simpa [rgR] using h3⟩)]; rfl)
            · simp -dsimp -implicitDefEqProofs (disch := omega) [go_sem, -List.getD_eq_getElem?_getD, ite_yes, hlt, cs, csk]
              exact LoopEnd.of (k + 1) ⟨by omega, by omega, hg.next (by simpa using h1) fun _ => by simpa [rgR] using h3⟩ (by omega) (weakS_same (by simp -dsimp -implicitDefEqProofs (disch := omega) [go_sem, -List.getD_eq_getElem?_getD, ite_yes, ht]))
          · simp at h2
            simp -dsimp -implicitDefEqProofs (disch := omega) [go_sem, -List.getD_eq_getElem?_getD, ite_yes, hlt, cs, csk]
            exact LoopEnd.of (k + 1) ⟨by omega, by omega, hg.next (by simpa using h1) fun h => by omega⟩ (by omega) (weakS_same (by simp -dsimp -implicitDefEqProofs (disch := omega) [go_sem, -List.getD_eq_getElem?_getD, ite_yes, ht]))
      · have h20' : ¬ (k : Int) ≤ 20 := by omega
        have h21 : ¬ l.length ≤ 20 := by omega
        have h21' : ¬ (l.length : Int) ≤ 20 := by omega
        simp -dsimp -implicitDefEqProofs (disch := omega) [go_sem, -List.getD_eq_getElem?_getD, ite_yes, hlt, h20, h20', h21, h21']
        exact fin_flat0 rfl (by simp only [listOk]; rw [decide_eq_false h21, Bool.and_false])
    · simp -dsimp -implicitDefEqProofs (disch := omega) [go_sem, -List.getD_eq_getElem?_getD, ite_yes, hlt]
      obtain rfl : k = l.length := by omega
      by_cases h20 : l.length ≤ 20
      · have h20' : (l.length : Int) ≤ 20 := by omega
        exact fin_flat0 rfl (by simp only [listOk, goodRg]; rw [asc_yes hg]; simp [h20, h20'])
      · exact fin_flat0 rfl (by simp only [listOk]; rw [decide_eq_false h20, Bool.and_false]; simp; omega)
def ahOk (r : Ar) (l : List Rg) (to : Int) : Bool := isRl r && (listOk l && inB to 0 9999)
def ahN (r : Ar) (l : List Rg) (to : Int) : Int := finS (hsS r to l l.length) to
structure AhAt (r : Ar) (l : List Rg) (to : Int) : Prop where
  f_rule : ruleOk r
  f_list : goodRg l = true
  f_len : l.length ≤ 20
  f_to : 0 ≤ to ∧ to ≤ 9999
theorem AhAt.of {r : Ar} {l : List Rg} {to : Int} (h : ahOk r l to = true) : AhAt r l to := by
  simp only [ahOk, listOk, inB, Bool.and_eq_true, decide_eq_true_eq] at h
  exact ⟨of_decide_eq_true h.1, h.2.1.1, h.2.1.2, h.2.2⟩
theorem iHours_bad (r : Ar) (l : List Rg) (to : Int) (hl : l.length ≤ 1048577) (hg : ahOk r l to = false) (c : Nat) (H : Heap) (t : Nat) (hS : Sl rgE H t l) :
    AFunC Try.prog 28 [ruleV r, .slice (some ⟨t, 0, none⟩) l.length c, .int .i64 to] H (.tuple #[.int .i64 0, .bool false]) H := by
  refine AFunC.of_body Try.func28 (by kernel_rfl) rfl (by kernel_rfl) (by simp [Try.ntmps28]) ?_
  have ht := hS.lt
  simp -dsimp -implicitDefEqProofs (disch := omega) [go_sem, -List.getD_eq_getElem?_getD, ite_yes]
  refine ACall.of (isRule_A r _) ?_
  cases g1 : isRl r
  · simp -dsimp -implicitDefEqProofs (disch := omega) [go_sem, -List.getD_eq_getElem?_getD, ite_yes]
    exact fin_flat rfl rfl
  simp -dsimp -implicitDefEqProofs (disch := omega) [go_sem, -List.getD_eq_getElem?_getD, ite_yes]
  refine ACall.of (areNodeReadings_A l hl c _ t hS.app) ?_
  cases g2 : listOk l
  · simp -dsimp -implicitDefEqProofs (disch := omega) [go_sem, -List.getD_eq_getElem?_getD, ite_yes]
    exact fin_flat rfl rfl
  have g3 : inB to 0 9999 = false := by simpa [ahOk, g1, g2] using hg
  simp -dsimp -implicitDefEqProofs (disch := omega) [go_sem, -List.getD_eq_getElem?_getD, ite_yes]
  refine ACall.of (isAlarmHour_A _ _) ?_
  simp -dsimp -implicitDefEqProofs (disch := omega) [go_sem, -List.getD_eq_getElem?_getD, ite_yes, g3]
  exact fin_flat rfl rfl
theorem sHours_bad (r : Ar) (l : List Rg) (to : Int) (hl : l.length ≤ 1048577) (hg : ahOk r l to = false) (c : Nat) (H : Heap) (t : Nat) (hS : Sl rgE H t l) :
    AFunC Try.prog 29 [ruleV r, .slice (some ⟨t, 0, none⟩) l.length c, .int .i64 to] H (.tuple #[.int .i64 0, .bool false]) H := by
  refine AFunC.of_body Try.func29 (by kernel_rfl) rfl (by kernel_rfl) (by simp [Try.ntmps29]) ?_
  have ht := hS.lt
  simp -dsimp -implicitDefEqProofs (disch := omega) [go_sem, -List.getD_eq_getElem?_getD, ite_yes]
  refine ACall.of (l21Rule_A r _) ?_
  cases g1 : isRl r
  · simp -dsimp -implicitDefEqProofs (disch := omega) [go_sem, -List.getD_eq_getElem?_getD, ite_yes]
    exact fin_flat rfl rfl
  simp -dsimp -implicitDefEqProofs (disch := omega) [go_sem, -List.getD_eq_getElem?_getD, ite_yes]
  refine ACall.of (l21List_A l hl c _ t hS.app) ?_
  cases g2 : listOk l
  · simp -dsimp -implicitDefEqProofs (disch := omega) [go_sem, -List.getD_eq_getElem?_getD, ite_yes]
    exact fin_flat rfl rfl
  have g3 : inB to 0 9999 = false := by simpa [ahOk, g1, g2] using hg
  simp -dsimp -implicitDefEqProofs (disch := omega) [go_sem, -List.getD_eq_getElem?_getD, ite_yes]
  refine ACall.of (l21Hour_A _ _) ?_
  simp -dsimp -implicitDefEqProofs (disch := omega) [go_sem, -List.getD_eq_getElem?_getD, ite_yes, g3]
  exact fin_flat rfl rfl
theorem iHours_good (r : Ar) (l : List Rg) (to : Int) (hl : l.length ≤ 1048577) (hg : ahOk r l to = true) (c : Nat) (H : Heap) (t : Nat) (hS : Sl rgE H t l) :
    AFunC Try.prog 28 [ruleV r, .slice (some ⟨t, 0, none⟩) l.length c, .int .i64 to] H (.tuple #[.int .i64 (ahN r l to), .bool true]) H := by
  refine AFunC.of_body Try.func28 (by kernel_rfl) rfl (by kernel_rfl) (by simp [Try.ntmps28]) ?_
  have ht := hS.lt
  have h := AhAt.of hg
  have h20 := h.f_len
  have hto := h.f_to
  simp only [ahOk, Bool.and_eq_true] at hg
  obtain ⟨g1, g2, g3⟩ := hg
  have cs := fun k hk => hS.cells (s := 3) (fun _ => rfl) (0, 0, 0) k hk
  have cs0 := fun k hk => hS.cell (s := 3) (fun _ => rfl) (0, 0, 0) k 0 hk (by omega)
  have cs1 := fun k hk => hS.cell (s := 3) (fun _ => rfl) (0, 0, 0) k 1 hk (by omega)
  have cs2 := fun k hk => hS.cell (s := 3) (fun _ => rfl) (0, 0, 0) k 2 hk (by omega)
  simp only [Nat.add_zero, rgE] at cs cs0 cs1 cs2
  simp -dsimp -implicitDefEqProofs (disch := omega) [go_sem, -List.getD_eq_getElem?_getD, ite_yes]
  refine ACall.of (isRule_A r _) ?_
  simp -dsimp -implicitDefEqProofs (disch := omega) [go_sem, -List.getD_eq_getElem?_getD, ite_yes, g1]
  refine ACall.of (areNodeReadings_A l hl c _ t hS.app) ?_
  simp -dsimp -implicitDefEqProofs (disch := omega) [go_sem, -List.getD_eq_getElem?_getD, ite_yes, g2]
  refine ACall.of (isAlarmHour_A _ _) ?_
  simp -dsimp -implicitDefEqProofs (disch := omega) [go_sem, -List.getD_eq_getElem?_getD, ite_yes, g3]
  refine ALoop.intro (ι := Nat) (fun k => k ≤ l.length) (fun k => [(2, .int .i64 to), (3, .pointer (some ⟨H.length, 0, none⟩)), (8, .int .i64 (hsI r to l k).2.1), (9, .int .i64 (hsI r to l k).2.2), (10, .int .i64 (hsI r to l k).1), (26, .slice (some ⟨t, 0, none⟩) l.length c), (27, .int .i64 l.length), (28, .int .i64 k)])
    (fun _ => H ++ [some ⟨[.int .i64 r.1, .int .i64 r.2.1, .int .i64 r.2.2.1, .int .i64 r.2.2.2], true, 54, 1⟩]) (fun k => l.length - k) 0 (by omega) ?_ ?_
  · refine weakS_mk [some 0] rfl ?_ (by simp -dsimp -implicitDefEqProofs (disch := omega) [go_sem, -List.getD_eq_getElem?_getD, ite_yes, ht, hsI])
    simp -dsimp -implicitDefEqProofs (disch := omega) [go_sem, -List.getD_eq_getElem?_getD, ite_yes]
    exact .inl ⟨rfl, rfl⟩
  · intro k hk
    have hb := hsI_bound (r := r) h.f_list hto.1 hto.2 k hk
    by_cases hlt : k < l.length
    · have cs' := cs k hlt
      have hx := goodRg_at h.f_list hlt
      by_cases hn : (l.getD k (0, 0, 0)).2.1 = r.1
      · have e : hsI r to l (k + 1) = (if (hsI r to l k).2.1 ≠ 0 then (hsI r to l k).1 + max (min (l.getD k (0, 0, 0)).1 to - (hsI r to l k).2.2) 0 else (hsI r to l k).1, kindN r (hsI r to l k).2.1 (l.getD k (0, 0, 0)).2.2, (l.getD k (0, 0, 0)).1) := by
          simp only [hsI]; rw [if_neg (by simpa using hn)]
        generalize hsI r to l k = s at *
        generalize l.getD k (0, 0, 0) = x at *
        by_cases hk0 : s.2.1 = 0
        · rw [if_neg (by simpa using hk0)] at e
          simp -dsimp -implicitDefEqProofs (disch := omega) [go_sem, -List.getD_eq_getElem?_getD, ite_yes, hlt, ht, cs', hn, hk0]
          refine ADraw.quiet (by kernel_rfl) (by kernel_rfl) (by kernel_rfl) ?_
          simp -dsimp -implicitDefEqProofs (disch := omega) [go_sem, -List.getD_eq_getElem?_getD, ite_yes, hk0]
          refine ACallQ.of (kindAfter_A r _ _ h.f_rule _) rfl ?_
          simp -dsimp -implicitDefEqProofs (disch := omega) [go_sem, -List.getD_eq_getElem?_getD, ite_yes, hk0]
          refine LoopEnd.of (k + 1) (by omega) (by omega) (weakS_mk [some 0] rfl ?_ (by simp -dsimp -implicitDefEqProofs (disch := omega) [go_sem, -List.getD_eq_getElem?_getD, ite_yes, ht, e, hk0]))
          simp -dsimp -implicitDefEqProofs (disch := omega) [go_sem, -List.getD_eq_getElem?_getD, ite_yes]
          exact .inl ⟨rfl, rfl⟩
        · rw [if_pos hk0] at e
          have m1 : (if (if to < x.1 then to else x.1) - s.2.2 < 0 then 0 else (if to < x.1 then to else x.1) - s.2.2) = max (min x.1 to - s.2.2) 0 := by split <;> split <;> omega
          have m2 : (if (if to < x.1 then to else x.1) - s.2.2 < 0 then (0 : Int) else (if to < x.1 then to else x.1) - s.2.2) = max (min x.1 to - s.2.2) 0 := m1
          simp -dsimp -implicitDefEqProofs (disch := omega) [go_sem, -List.getD_eq_getElem?_getD, ite_yes, hlt, ht, cs', hn, hk0, m1]
          refine ADraw.quiet (by kernel_rfl) (by kernel_rfl) (by kernel_rfl) ?_
          simp -dsimp -implicitDefEqProofs (disch := omega) [go_sem, -List.getD_eq_getElem?_getD, ite_yes]
          refine ACallQ.of (kindAfter_A r _ _ h.f_rule _) rfl ?_
          simp -dsimp -implicitDefEqProofs (disch := omega) [go_sem, -List.getD_eq_getElem?_getD, ite_yes]
          refine LoopEnd.of (k + 1) (by omega) (by omega) (weakS_mk [some 0] rfl ?_ (by simp -dsimp -implicitDefEqProofs (disch := omega) [go_sem, -List.getD_eq_getElem?_getD, ite_yes, ht, e]))
          simp -dsimp -implicitDefEqProofs (disch := omega) [go_sem, -List.getD_eq_getElem?_getD, ite_yes]
          exact .inl ⟨rfl, rfl⟩
      · have e : hsI r to l (k + 1) = hsI r to l k := by simp only [hsI]; rw [if_pos hn]
        simp -dsimp -implicitDefEqProofs (disch := omega) [go_sem, -List.getD_eq_getElem?_getD, ite_yes, hlt, ht, cs', hn]
        refine LoopEnd.of (k + 1) (by omega) (by omega) (weakS_mk [some 0] rfl ?_ (by simp -dsimp -implicitDefEqProofs (disch := omega) [go_sem, -List.getD_eq_getElem?_getD, ite_yes, ht, e]))
        simp -dsimp -implicitDefEqProofs (disch := omega) [go_sem, -List.getD_eq_getElem?_getD, ite_yes]
        exact .inl ⟨rfl, rfl⟩
    · have hk' : k = l.length := by omega
      have hf := hours_eq (r := r) h.f_list hto.1
      rw [← hk'] at hf
      have hf : finI (hsI r to l k) to = ahN r l to := by rw [hf]; unfold ahN; rw [← hk']
      unfold finI at hf
      rw [← hf]
      generalize hsI r to l k = s at *
      by_cases hk0 : s.2.1 = 0
      · simp -dsimp -implicitDefEqProofs (disch := omega) [go_sem, -List.getD_eq_getElem?_getD, ite_yes, hlt, hk0]
        exact fin_flat rfl (by simp [hk0])
      · have m1 : (if to - s.2.2 < 0 then 0 else to - s.2.2) = max (to - s.2.2) 0 := by split <;> omega
        simp -dsimp -implicitDefEqProofs (disch := omega) [go_sem, -List.getD_eq_getElem?_getD, ite_yes, hlt, hk0, m1]
        exact fin_flat rfl (by simp [hk0])
theorem sHours_good (r : Ar) (l : List Rg) (to : Int) (hl : l.length ≤ 1048577) (hg : ahOk r l to = true) (c : Nat) (H : Heap) (t : Nat) (hS : Sl rgE H t l) :
    AFunC Try.prog 29 [ruleV r, .slice (some ⟨t, 0, none⟩) l.length c, .int .i64 to] H (.tuple #[.int .i64 (ahN r l to), .bool true]) H := by
  refine AFunC.of_body Try.func29 (by kernel_rfl) rfl (by kernel_rfl) (by simp [Try.ntmps29]) ?_
  have ht := hS.lt
  have h := AhAt.of hg
  have h20 := h.f_len
  have hto := h.f_to
  simp only [ahOk, Bool.and_eq_true] at hg
  obtain ⟨g1, g2, g3⟩ := hg
  have cs := fun k hk => hS.cells (s := 3) (fun _ => rfl) (0, 0, 0) k hk
  have cs0 := fun k hk => hS.cell (s := 3) (fun _ => rfl) (0, 0, 0) k 0 hk (by omega)
  have cs1 := fun k hk => hS.cell (s := 3) (fun _ => rfl) (0, 0, 0) k 1 hk (by omega)
  have cs2 := fun k hk => hS.cell (s := 3) (fun _ => rfl) (0, 0, 0) k 2 hk (by omega)
  simp only [Nat.add_zero, rgE] at cs cs0 cs1 cs2
  simp -dsimp -implicitDefEqProofs (disch := omega) [go_sem, -List.getD_eq_getElem?_getD, ite_yes]
  refine ACall.of (l21Rule_A r _) ?_
  simp -dsimp -implicitDefEqProofs (disch := omega) [go_sem, -List.getD_eq_getElem?_getD, ite_yes, g1]
  refine ACall.of (l21List_A l hl c _ t hS.app) ?_
  simp -dsimp -implicitDefEqProofs (disch := omega) [go_sem, -List.getD_eq_getElem?_getD, ite_yes, g2]
  refine ACall.of (l21Hour_A _ _) ?_
  simp -dsimp -implicitDefEqProofs (disch := omega) [go_sem, -List.getD_eq_getElem?_getD, ite_yes, g3]
  refine ALoop.intro (ι := Nat) (fun k => k ≤ l.length) (fun k => [(1, .slice (some ⟨t, 0, none⟩) l.length c), (2, .int .i64 to), (3, .pointer (some ⟨H.length, 0, none⟩)), (8, .int .i64 (hsS r to l k).1), (9, .int .i64 (hsS r to l k).2.1), (10, .int .i64 (hsS r to l k).2.2), (11, .int .i64 k)])
    (fun _ => H ++ [some ⟨[.int .i64 r.1, .int .i64 r.2.1, .int .i64 r.2.2.1, .int .i64 r.2.2.2], true, 54, 1⟩]) (fun k => l.length - k) 0 (by omega) ?_ ?_
  · refine weakS_mk [some 0] rfl ?_ (by simp -dsimp -implicitDefEqProofs (disch := omega) [go_sem, -List.getD_eq_getElem?_getD, ite_yes, ht, hsS])
    simp -dsimp -implicitDefEqProofs (disch := omega) [go_sem, -List.getD_eq_getElem?_getD, ite_yes]
    exact .inl ⟨rfl, rfl⟩
  · intro k hk
    have hb := hsS_bound (r := r) h.f_list hto.1 hto.2 k hk
    by_cases hlt : k < l.length
    · have c0 := cs0 k hlt
      have c1 := cs1 k hlt
      have c2 := cs2 k hlt
      have hx := goodRg_at h.f_list hlt
      by_cases hn : (l.getD k (0, 0, 0)).2.1 = r.1
      · by_cases ht2 : to < (l.getD k (0, 0, 0)).1
        · have e : hsS r to l (k + 1) = hsS r to l k := by simp only [hsS]; rw [if_pos (.inr ht2)]
          simp -dsimp -implicitDefEqProofs (disch := omega) [go_sem, -List.getD_eq_getElem?_getD, ite_yes, hlt, ht]
          refine ADraw.quiet (by kernel_rfl) (by kernel_rfl) (by kernel_rfl) ?_
          simp -dsimp -implicitDefEqProofs (disch := omega) [go_sem, -List.getD_eq_getElem?_getD, ite_yes, hlt, ht, c0, c1, hn, ht2]
          refine LoopEnd.of (k + 1) (by omega) (by omega) (weakS_mk [some 0] rfl ?_ (by simp -dsimp -implicitDefEqProofs (disch := omega) [go_sem, -List.getD_eq_getElem?_getD, ite_yes, ht, e]))
          simp -dsimp -implicitDefEqProofs (disch := omega) [go_sem, -List.getD_eq_getElem?_getD, ite_yes]
          exact .inl ⟨rfl, rfl⟩
        · have e : hsS r to l (k + 1) = (if (hsS r to l k).2.1 ≠ 0 then (hsS r to l k).1 + (l.getD k (0, 0, 0)).1 - (hsS r to l k).2.2 else (hsS r to l k).1, kindN r (hsS r to l k).2.1 (l.getD k (0, 0, 0)).2.2, (l.getD k (0, 0, 0)).1) := by
            simp only [hsS]; rw [if_neg (by intro h; rcases h with h | h; exact h hn; exact ht2 h)]
          generalize hsS r to l k = s at *
          simp -dsimp -implicitDefEqProofs (disch := omega) [go_sem, -List.getD_eq_getElem?_getD, ite_yes, hlt, ht]
          refine ADraw.quiet (by kernel_rfl) (by kernel_rfl) (by kernel_rfl) ?_
          by_cases hk0 : s.2.1 = 0
          · rw [if_neg (by simpa using hk0)] at e
            simp -dsimp -implicitDefEqProofs (disch := omega) [go_sem, -List.getD_eq_getElem?_getD, ite_yes, hlt, ht, c0, c1, hn, ht2, hk0]
            refine ADraw.quiet (by kernel_rfl) (by kernel_rfl) (by kernel_rfl) ?_
            simp -dsimp -implicitDefEqProofs (disch := omega) [go_sem, -List.getD_eq_getElem?_getD, ite_yes, hlt, ht, c2, hk0]
            refine ACallQ.of (l21Kind_A r _ _ h.f_rule _) rfl ?_
            simp -dsimp -implicitDefEqProofs (disch := omega) [go_sem, -List.getD_eq_getElem?_getD, ite_yes, hlt, ht, c0, hk0]
            refine LoopEnd.of (k + 1) (by omega) (by omega) (weakS_mk [some 0] rfl ?_ (by simp -dsimp -implicitDefEqProofs (disch := omega) [go_sem, -List.getD_eq_getElem?_getD, ite_yes, ht, e, hk0]))
            simp -dsimp -implicitDefEqProofs (disch := omega) [go_sem, -List.getD_eq_getElem?_getD, ite_yes]
            exact .inl ⟨rfl, rfl⟩
          · rw [if_pos hk0] at e
            simp -dsimp -implicitDefEqProofs (disch := omega) [go_sem, -List.getD_eq_getElem?_getD, ite_yes, hlt, ht, c0, c1, hn, ht2, hk0]
            refine ADraw.quiet (by kernel_rfl) (by kernel_rfl) (by kernel_rfl) ?_
            simp -dsimp -implicitDefEqProofs (disch := omega) [go_sem, -List.getD_eq_getElem?_getD, ite_yes, hlt, ht, c2]
            refine ACallQ.of (l21Kind_A r _ _ h.f_rule _) rfl ?_
            simp -dsimp -implicitDefEqProofs (disch := omega) [go_sem, -List.getD_eq_getElem?_getD, ite_yes, hlt, ht, c0]
            refine LoopEnd.of (k + 1) (by omega) (by omega) (weakS_mk [some 0] rfl ?_ (by simp -dsimp -implicitDefEqProofs (disch := omega) [go_sem, -List.getD_eq_getElem?_getD, ite_yes, ht, e]))
            simp -dsimp -implicitDefEqProofs (disch := omega) [go_sem, -List.getD_eq_getElem?_getD, ite_yes]
            exact .inl ⟨rfl, rfl⟩
      · have e : hsS r to l (k + 1) = hsS r to l k := by simp only [hsS]; rw [if_pos (.inl hn)]
        simp -dsimp -implicitDefEqProofs (disch := omega) [go_sem, -List.getD_eq_getElem?_getD, ite_yes, hlt, ht]
        refine ADraw.quiet (by kernel_rfl) (by kernel_rfl) (by kernel_rfl) ?_
        simp -dsimp -implicitDefEqProofs (disch := omega) [go_sem, -List.getD_eq_getElem?_getD, ite_yes, hlt, ht, c0, c1, hn]
        refine LoopEnd.of (k + 1) (by omega) (by omega) (weakS_mk [some 0] rfl ?_ (by simp -dsimp -implicitDefEqProofs (disch := omega) [go_sem, -List.getD_eq_getElem?_getD, ite_yes, ht, e]))
        simp -dsimp -implicitDefEqProofs (disch := omega) [go_sem, -List.getD_eq_getElem?_getD, ite_yes]
        exact .inl ⟨rfl, rfl⟩
    · have hk' : k = l.length := by omega
      have hf : finS (hsS r to l k) to = ahN r l to := by unfold ahN; rw [← hk']
      unfold finS at hf
      rw [← hf]
      generalize hsS r to l k = s at *
      by_cases hk0 : s.2.1 = 0
      · simp -dsimp -implicitDefEqProofs (disch := omega) [go_sem, -List.getD_eq_getElem?_getD, ite_yes, hlt, hk0]
        exact fin_flat rfl (by simp [hk0])
      · simp -dsimp -implicitDefEqProofs (disch := omega) [go_sem, -List.getD_eq_getElem?_getD, ite_yes, hlt, hk0]
        exact fin_flat rfl (by simp [hk0])
end Go.Proofs.Ytokafhinmakdnaa
