/- Rules, alarms and readings of alarms: what is valid. -/
import Derived.Test.YtokafhinmakdnaaAsc
import Derived.Test.YtokafhinmakdnaaRecAr
import Derived.Test.YtokafhinmakdnaaRecAl
import Derived.Test.YtokafhinmakdnaaRecRg
import Derived.Test.YtokafhinmakdnaaAlarms
namespace Go.Proofs.Ytokafhinmakdnaa
open Go.Am
set_option linter.unusedVariables false
set_option linter.unusedSimpArgs false
set_option maxRecDepth 100000

def isAl (a : Al) : Bool := inB a.1 1 8 && (inB a.2.1 1 2 && inB a.2.2.1 0 9999)
def isRg (a : Rg) : Bool := inB a.1 0 9999 && (inB a.2.1 1 8 && inB a.2.2 0 100000)
theorem isAlarmHour_A (n : Int) (H : Heap) : AFunC Try.prog 59 [.int .i64 n] H (.bool (inB n 0 9999)) H := by
  refine AFunC.of_body Try.func59 (by kernel_rfl) rfl (by kernel_rfl) (by simp [Try.ntmps59]) ?_
  simp -dsimp -implicitDefEqProofs (disch := omega) [go_sem, -List.getD_eq_getElem?_getD, ite_yes]
  refine ACall.of (inside_A _ _ _ _) ?_
  simp -dsimp -implicitDefEqProofs (disch := omega) [go_sem, -List.getD_eq_getElem?_getD, ite_yes]
  exact fin_flat0 rfl rfl
theorem l21Hour_A (n : Int) (H : Heap) : AFunC Try.prog 62 [.int .i64 n] H (.bool (inB n 0 9999)) H := by
  refine AFunC.of_body Try.func62 (by kernel_rfl) rfl (by kernel_rfl) (by simp [Try.ntmps62]) ?_
  simp -dsimp -implicitDefEqProofs (disch := omega) [go_sem, -List.getD_eq_getElem?_getD, ite_yes]
  refine ACall.of (l1In_A _ _ _ _) ?_
  simp -dsimp -implicitDefEqProofs (disch := omega) [go_sem, -List.getD_eq_getElem?_getD, ite_yes]
  exact fin_flat0 rfl rfl
theorem isAlarm_A (r : Al) (H : Heap) : AFunC Try.prog 73 [.agg #[.int .i64 r.1, .int .i64 r.2.1, .int .i64 r.2.2.1, .bool r.2.2.2]] H (.bool (isAl r)) H := by
  refine AFunC.of_body Try.func73 (by kernel_rfl) rfl (by kernel_rfl) (by simp [Try.ntmps73]) ?_
  simp -dsimp -implicitDefEqProofs (disch := omega) [go_sem, -List.getD_eq_getElem?_getD, ite_yes]
  refine ACall.of (isNode_A _ _) ?_
  simp -dsimp -implicitDefEqProofs (disch := omega) [go_sem, -List.getD_eq_getElem?_getD, ite_yes]
  refine AIf.of (fun h0 => ?_) (fun h0 => ?_)
  rotate_left
  · simp -dsimp -implicitDefEqProofs (disch := omega) [go_sem, -List.getD_eq_getElem?_getD, ite_yes]
    exact fin_flat rfl (by (try simp only [isNodeB] at *); simp [isAl, h0])
  simp -dsimp -implicitDefEqProofs (disch := omega) [go_sem, -List.getD_eq_getElem?_getD, ite_yes]
  refine ACall.of (inside_A _ _ _ _) ?_
  simp -dsimp -implicitDefEqProofs (disch := omega) [go_sem, -List.getD_eq_getElem?_getD, ite_yes]
  refine AIf.of (fun h1 => ?_) (fun h1 => ?_)
  rotate_left
  · simp -dsimp -implicitDefEqProofs (disch := omega) [go_sem, -List.getD_eq_getElem?_getD, ite_yes]
    exact fin_flat rfl (by (try simp only [isNodeB] at *); simp [isAl, h0, h1])
  simp -dsimp -implicitDefEqProofs (disch := omega) [go_sem, -List.getD_eq_getElem?_getD, ite_yes]
  refine ACall.of (isAlarmHour_A _ _) ?_
  simp -dsimp -implicitDefEqProofs (disch := omega) [go_sem, -List.getD_eq_getElem?_getD, ite_yes]
  exact fin_flat rfl (by (try simp only [isNodeB] at *); simp [isAl, h0, h1])
theorem l21Alarm_A (r : Al) (H : Heap) : AFunC Try.prog 72 [.agg #[.int .i64 r.1, .int .i64 r.2.1, .int .i64 r.2.2.1, .bool r.2.2.2]] H (.bool (isAl r)) H := by
  refine AFunC.of_body Try.func72 (by kernel_rfl) rfl (by kernel_rfl) (by simp [Try.ntmps72]) ?_
  simp -dsimp -implicitDefEqProofs (disch := omega) [go_sem, -List.getD_eq_getElem?_getD, ite_yes]
  refine ACall.of (l1In_A _ _ _ _) ?_
  simp -dsimp -implicitDefEqProofs (disch := omega) [go_sem, -List.getD_eq_getElem?_getD, ite_yes]
  refine AIf.of (fun h0 => ?_) (fun h0 => ?_)
  rotate_left
  · simp -dsimp -implicitDefEqProofs (disch := omega) [go_sem, -List.getD_eq_getElem?_getD, ite_yes]
    exact fin_flat rfl (by (try simp only [isNodeB] at *); simp [isAl, h0])
  simp -dsimp -implicitDefEqProofs (disch := omega) [go_sem, -List.getD_eq_getElem?_getD, ite_yes]
  refine ACall.of (l1In_A _ _ _ _) ?_
  simp -dsimp -implicitDefEqProofs (disch := omega) [go_sem, -List.getD_eq_getElem?_getD, ite_yes]
  refine AIf.of (fun h1 => ?_) (fun h1 => ?_)
  rotate_left
  · simp -dsimp -implicitDefEqProofs (disch := omega) [go_sem, -List.getD_eq_getElem?_getD, ite_yes]
    exact fin_flat rfl (by (try simp only [isNodeB] at *); simp [isAl, h0, h1])
  simp -dsimp -implicitDefEqProofs (disch := omega) [go_sem, -List.getD_eq_getElem?_getD, ite_yes]
  refine ACall.of (l21Hour_A _ _) ?_
  simp -dsimp -implicitDefEqProofs (disch := omega) [go_sem, -List.getD_eq_getElem?_getD, ite_yes]
  exact fin_flat rfl (by (try simp only [isNodeB] at *); simp [isAl, h0, h1])
theorem isNodeReading_A (r : Rg) (H : Heap) : AFunC Try.prog 45 [.agg #[.int .i64 r.1, .int .i64 r.2.1, .int .i64 r.2.2]] H (.bool (isRg r)) H := by
  refine AFunC.of_body Try.func45 (by kernel_rfl) rfl (by kernel_rfl) (by simp [Try.ntmps45]) ?_
  simp -dsimp -implicitDefEqProofs (disch := omega) [go_sem, -List.getD_eq_getElem?_getD, ite_yes]
  refine ACall.of (isAlarmHour_A _ _) ?_
  simp -dsimp -implicitDefEqProofs (disch := omega) [go_sem, -List.getD_eq_getElem?_getD, ite_yes]
  refine AIf.of (fun h0 => ?_) (fun h0 => ?_)
  rotate_left
  · simp -dsimp -implicitDefEqProofs (disch := omega) [go_sem, -List.getD_eq_getElem?_getD, ite_yes]
    exact fin_flat rfl (by (try simp only [isNodeB] at *); simp [isRg, h0])
  simp -dsimp -implicitDefEqProofs (disch := omega) [go_sem, -List.getD_eq_getElem?_getD, ite_yes]
  refine ACall.of (isNode_A _ _) ?_
  simp -dsimp -implicitDefEqProofs (disch := omega) [go_sem, -List.getD_eq_getElem?_getD, ite_yes]
  refine AIf.of (fun h1 => ?_) (fun h1 => ?_)
  rotate_left
  · simp -dsimp -implicitDefEqProofs (disch := omega) [go_sem, -List.getD_eq_getElem?_getD, ite_yes]
    exact fin_flat rfl (by (try simp only [isNodeB] at *); simp [isRg, h0, h1])
  simp -dsimp -implicitDefEqProofs (disch := omega) [go_sem, -List.getD_eq_getElem?_getD, ite_yes]
  refine ACall.of (inside_A _ _ _ _) ?_
  simp -dsimp -implicitDefEqProofs (disch := omega) [go_sem, -List.getD_eq_getElem?_getD, ite_yes]
  exact fin_flat rfl (by (try simp only [isNodeB] at *); simp [isRg, h0, h1])
theorem l21Reading_A (r : Rg) (H : Heap) : AFunC Try.prog 39 [.agg #[.int .i64 r.1, .int .i64 r.2.1, .int .i64 r.2.2]] H (.bool (isRg r)) H := by
  refine AFunC.of_body Try.func39 (by kernel_rfl) rfl (by kernel_rfl) (by simp [Try.ntmps39]) ?_
  simp -dsimp -implicitDefEqProofs (disch := omega) [go_sem, -List.getD_eq_getElem?_getD, ite_yes]
  refine ACall.of (l21Hour_A _ _) ?_
  simp -dsimp -implicitDefEqProofs (disch := omega) [go_sem, -List.getD_eq_getElem?_getD, ite_yes]
  refine AIf.of (fun h0 => ?_) (fun h0 => ?_)
  rotate_left
  · simp -dsimp -implicitDefEqProofs (disch := omega) [go_sem, -List.getD_eq_getElem?_getD, ite_yes]
    exact fin_flat rfl (by (try simp only [isNodeB] at *); simp [isRg, h0])
  simp -dsimp -implicitDefEqProofs (disch := omega) [go_sem, -List.getD_eq_getElem?_getD, ite_yes]
  refine ACall.of (l1In_A _ _ _ _) ?_
  simp -dsimp -implicitDefEqProofs (disch := omega) [go_sem, -List.getD_eq_getElem?_getD, ite_yes]
  refine AIf.of (fun h1 => ?_) (fun h1 => ?_)
  rotate_left
  · simp -dsimp -implicitDefEqProofs (disch := omega) [go_sem, -List.getD_eq_getElem?_getD, ite_yes]
    exact fin_flat rfl (by (try simp only [isNodeB] at *); simp [isRg, h0, h1])
  simp -dsimp -implicitDefEqProofs (disch := omega) [go_sem, -List.getD_eq_getElem?_getD, ite_yes]
  refine ACall.of (l21Value_A _ _) ?_
  simp -dsimp -implicitDefEqProofs (disch := omega) [go_sem, -List.getD_eq_getElem?_getD, ite_yes]
  exact fin_flat rfl (by (try simp only [isNodeB] at *); simp [isRg, h0, h1])
def goodRR (a b : Ar) : Bool := decide (a.1 < b.1)
abbrev goodRTo (l : List Ar) (k : Nat) : Prop := ascTo (0, 0, 0, 0) isRl goodRR l k
def goodR (l : List Ar) : Bool := asc (0, 0, 0, 0) isRl goodRR l
theorem goodR_no {l : List Ar} {k : Nat} (hk : k < l.length) (h : isRl (l.getD k (0, 0, 0, 0)) = false ∨ 0 < k ∧ goodRR (l.getD (k - 1) (0, 0, 0, 0)) (l.getD k (0, 0, 0, 0)) = false) : goodR l = false := asc_no hk h
theorem goodR_end {l : List Ar} (h : goodRTo l l.length) : goodR l = true := asc_yes h
theorem iAreRules_A (l : List Ar) (hl : l.length ≤ 1048577) (c : Nat) (H : Heap) (t : Nat) (hS : Sl arE H t l) :
    AFunC Try.prog 43 [.slice (some ⟨t, 0, none⟩) l.length c] H (.bool (goodR l)) H := by
  refine AFunC.of_body Try.func43 (by kernel_rfl) rfl (by kernel_rfl) (by simp [Try.ntmps43]) ?_
  have ht := hS.lt
  have cs := fun k hk => hS.cells (s := 4) (fun _ => rfl) (0, 0, 0, 0) k hk
  have csk := fun k hk => hS.cell (s := 4) (fun _ => rfl) (0, 0, 0, 0) k 0 hk (by omega)
  simp only [Nat.add_zero, arE] at csk cs
  simp -dsimp -implicitDefEqProofs (disch := omega) [go_sem, -List.getD_eq_getElem?_getD, ite_yes]
  refine ALoop.intro (ι := Nat) (fun k => k ≤ l.length ∧ goodRTo l k) (fun k => [(0, .slice (some ⟨t, 0, none⟩) l.length c), (5, .slice (some ⟨t, 0, none⟩) l.length c), (6, .int .i64 l.length), (7, .int .i64 k)]) (fun _ => H) (fun k => l.length - k) 0 ⟨by omega, ascTo_zero⟩ ?_ ?_
  · exact weakS_same (by simp -dsimp -implicitDefEqProofs (disch := omega) [go_sem, -List.getD_eq_getElem?_getD, ite_yes, ht])
  · rintro k ⟨hk, hg⟩
    by_cases hlt : k < l.length
    · simp -dsimp -implicitDefEqProofs (disch := omega) [go_sem, -List.getD_eq_getElem?_getD, ite_yes, hlt, cs, ht]
      refine ADraw.quiet (by kernel_rfl) (by kernel_rfl) (by kernel_rfl) ?_
      simp -dsimp -implicitDefEqProofs (disch := omega) [go_sem, -List.getD_eq_getElem?_getD, ite_yes, hlt, cs, csk, ht]
      refine ACallQ.of (isRule_A (l.getD k (0, 0, 0, 0)) _) rfl ?_
      simp -dsimp -implicitDefEqProofs (disch := omega) [go_sem, -List.getD_eq_getElem?_getD, ite_yes, hlt, cs, csk, ht]
      refine AIf.of (fun h1 => ?_) (fun h1 => ?_)
      · simp -dsimp -implicitDefEqProofs (disch := omega) [go_sem, -List.getD_eq_getElem?_getD, ite_yes, hlt, cs, csk]
        exact fin_flat rfl (by rw [goodR_no hlt (.inl (by simpa using h1))])
      · simp -dsimp -implicitDefEqProofs (disch := omega) [go_sem, -List.getD_eq_getElem?_getD, ite_yes, hlt, cs, csk]
        refine AIf.of (fun h2 => ?_) (fun h2 => ?_)
        · simp at h2
          simp -dsimp -implicitDefEqProofs (disch := omega) [go_sem, -List.getD_eq_getElem?_getD, ite_yes, hlt, cs, csk, ht]
          refine AIf.of (fun h3 => ?_) (fun h3 => ?_)
          · simp -dsimp -implicitDefEqProofs (disch := omega) [go_sem, -List.getD_eq_getElem?_getD, ite_yes, hlt, cs, csk]
            exact fin_flat rfl (by rw [goodR_no hlt (.inr ⟨h2, by simpa [goodRR] using h3⟩)])
          · simp -dsimp -implicitDefEqProofs (disch := omega) [go_sem, -List.getD_eq_getElem?_getD, ite_yes, hlt, cs, csk]
            exact LoopEnd.of (k + 1) ⟨by omega, hg.next (by simpa using h1) fun _ => by simpa [goodRR] using h3⟩ (by omega) (weakS_drop (by simp -dsimp -implicitDefEqProofs (disch := omega) [go_sem, -List.getD_eq_getElem?_getD, ite_yes, ht]))
        · simp at h2
          simp -dsimp -implicitDefEqProofs (disch := omega) [go_sem, -List.getD_eq_getElem?_getD, ite_yes, hlt, cs, csk]
          exact LoopEnd.of (k + 1) ⟨by omega, hg.next (by simpa using h1) fun h => by omega⟩ (by omega) (weakS_drop (by simp -dsimp -implicitDefEqProofs (disch := omega) [go_sem, -List.getD_eq_getElem?_getD, ite_yes, ht]))
    · simp -dsimp -implicitDefEqProofs (disch := omega) [go_sem, -List.getD_eq_getElem?_getD, ite_yes, hlt]
      obtain rfl : k = l.length := by omega
      exact fin_flat0 rfl (by rw [goodR_end hg])
theorem l21Rules_A (l : List Ar) (hl : l.length ≤ 1048577) (c : Nat) (H : Heap) (t : Nat) (hS : Sl arE H t l) :
    AFunC Try.prog 37 [.slice (some ⟨t, 0, none⟩) l.length c] H (.bool (goodR l)) H := by
  refine AFunC.of_body Try.func37 (by kernel_rfl) rfl (by kernel_rfl) (by simp [Try.ntmps37]) ?_
  have ht := hS.lt
  have cs := fun k hk => hS.cells (s := 4) (fun _ => rfl) (0, 0, 0, 0) k hk
  have csk := fun k hk => hS.cell (s := 4) (fun _ => rfl) (0, 0, 0, 0) k 0 hk (by omega)
  simp only [Nat.add_zero, arE] at csk cs
  simp -dsimp -implicitDefEqProofs (disch := omega) [go_sem, -List.getD_eq_getElem?_getD, ite_yes]
  refine ALoop.intro (ι := Nat) (fun k => k ≤ l.length ∧ goodRTo l k) (fun k => [(0, .slice (some ⟨t, 0, none⟩) l.length c), (3, .int .i64 k)]) (fun _ => H) (fun k => l.length - k) 0 ⟨by omega, ascTo_zero⟩ ?_ ?_
  · exact weakS_same (by simp -dsimp -implicitDefEqProofs (disch := omega) [go_sem, -List.getD_eq_getElem?_getD, ite_yes, ht])
  · rintro k ⟨hk, hg⟩
    by_cases hlt : k < l.length
    · simp -dsimp -implicitDefEqProofs (disch := omega) [go_sem, -List.getD_eq_getElem?_getD, ite_yes, hlt, cs, ht]
      refine ADraw.quiet (by kernel_rfl) (by kernel_rfl) (by kernel_rfl) ?_
      simp -dsimp -implicitDefEqProofs (disch := omega) [go_sem, -List.getD_eq_getElem?_getD, ite_yes, hlt, cs, csk, ht]
      refine ACallQ.of (l21Rule_A (l.getD k (0, 0, 0, 0)) _) rfl ?_
      simp -dsimp -implicitDefEqProofs (disch := omega) [go_sem, -List.getD_eq_getElem?_getD, ite_yes, hlt, cs, csk, ht]
      refine AIf.of (fun h1 => ?_) (fun h1 => ?_)
      · simp -dsimp -implicitDefEqProofs (disch := omega) [go_sem, -List.getD_eq_getElem?_getD, ite_yes, hlt, cs, csk]
        exact fin_flat0 rfl (by rw [goodR_no hlt (.inl (by simpa using h1))])
      · simp -dsimp -implicitDefEqProofs (disch := omega) [go_sem, -List.getD_eq_getElem?_getD, ite_yes, hlt, cs, csk]
        refine AIf.of (fun h2 => ?_) (fun h2 => ?_)
        · simp at h2
          simp -dsimp -implicitDefEqProofs (disch := omega) [go_sem, -List.getD_eq_getElem?_getD, ite_yes, hlt, cs, csk, ht]
          refine AIf.of (fun h3 => ?_) (fun h3 => ?_)
          · simp -dsimp -implicitDefEqProofs (disch := omega) [go_sem, -List.getD_eq_getElem?_getD, ite_yes, hlt, cs, csk]
            exact fin_flat0 rfl (by rw [goodR_no hlt (.inr ⟨h2, by simpa [goodRR] using h3⟩)])
          · simp -dsimp -implicitDefEqProofs (disch := omega) [go_sem, -List.getD_eq_getElem?_getD, ite_yes, hlt, cs, csk]
            exact LoopEnd.of (k + 1) ⟨by omega, hg.next (by simpa using h1) fun _ => by simpa [goodRR] using h3⟩ (by omega) (weakS_same (by simp -dsimp -implicitDefEqProofs (disch := omega) [go_sem, -List.getD_eq_getElem?_getD, ite_yes, ht]))
        · simp at h2
          simp -dsimp -implicitDefEqProofs (disch := omega) [go_sem, -List.getD_eq_getElem?_getD, ite_yes, hlt, cs, csk]
          exact LoopEnd.of (k + 1) ⟨by omega, hg.next (by simpa using h1) fun h => by omega⟩ (by omega) (weakS_same (by simp -dsimp -implicitDefEqProofs (disch := omega) [go_sem, -List.getD_eq_getElem?_getD, ite_yes, ht]))
    · simp -dsimp -implicitDefEqProofs (disch := omega) [go_sem, -List.getD_eq_getElem?_getD, ite_yes, hlt]
      obtain rfl : k = l.length := by omega
      exact fin_flat0 rfl (by rw [goodR_end hg])
def goodAR (a b : Al) : Bool := decide (a.1 < b.1)
abbrev goodATo (l : List Al) (k : Nat) : Prop := ascTo (0, 0, 0, false) isAl goodAR l k
def goodA (l : List Al) : Bool := asc (0, 0, 0, false) isAl goodAR l
theorem goodA_no {l : List Al} {k : Nat} (hk : k < l.length) (h : isAl (l.getD k (0, 0, 0, false)) = false ∨ 0 < k ∧ goodAR (l.getD (k - 1) (0, 0, 0, false)) (l.getD k (0, 0, 0, false)) = false) : goodA l = false := asc_no hk h
theorem goodA_end {l : List Al} (h : goodATo l l.length) : goodA l = true := asc_yes h
theorem areAlarms_A (l : List Al) (hl : l.length ≤ 1048577) (c : Nat) (H : Heap) (t : Nat) (hS : Sl alE H t l) :
    AFunC Try.prog 44 [.slice (some ⟨t, 0, none⟩) l.length c] H (.bool (goodA l)) H := by
  refine AFunC.of_body Try.func44 (by kernel_rfl) rfl (by kernel_rfl) (by simp [Try.ntmps44]) ?_
  have ht := hS.lt
  have cs := fun k hk => hS.cells (s := 4) (fun _ => rfl) (0, 0, 0, false) k hk
  have csk := fun k hk => hS.cell (s := 4) (fun _ => rfl) (0, 0, 0, false) k 0 hk (by omega)
  simp only [Nat.add_zero, alE] at csk cs
  simp -dsimp -implicitDefEqProofs (disch := omega) [go_sem, -List.getD_eq_getElem?_getD, ite_yes]
  refine ALoop.intro (ι := Nat) (fun k => k ≤ l.length ∧ goodATo l k) (fun k => [(0, .slice (some ⟨t, 0, none⟩) l.length c), (5, .slice (some ⟨t, 0, none⟩) l.length c), (6, .int .i64 l.length), (7, .int .i64 k)]) (fun _ => H) (fun k => l.length - k) 0 ⟨by omega, ascTo_zero⟩ ?_ ?_
  · exact weakS_same (by simp -dsimp -implicitDefEqProofs (disch := omega) [go_sem, -List.getD_eq_getElem?_getD, ite_yes, ht])
  · rintro k ⟨hk, hg⟩
    by_cases hlt : k < l.length
    · simp -dsimp -implicitDefEqProofs (disch := omega) [go_sem, -List.getD_eq_getElem?_getD, ite_yes, hlt, cs, ht]
      refine ADraw.quiet (by kernel_rfl) (by kernel_rfl) (by kernel_rfl) ?_
      simp -dsimp -implicitDefEqProofs (disch := omega) [go_sem, -List.getD_eq_getElem?_getD, ite_yes, hlt, cs, csk, ht]
      refine ACallQ.of (isAlarm_A (l.getD k (0, 0, 0, false)) _) rfl ?_
      simp -dsimp -implicitDefEqProofs (disch := omega) [go_sem, -List.getD_eq_getElem?_getD, ite_yes, hlt, cs, csk, ht]
      refine AIf.of (fun h1 => ?_) (fun h1 => ?_)
      · simp -dsimp -implicitDefEqProofs (disch := omega) [go_sem, -List.getD_eq_getElem?_getD, ite_yes, hlt, cs, csk]
        exact fin_flat rfl (by rw [goodA_no hlt (.inl (by simpa using h1))])
      · simp -dsimp -implicitDefEqProofs (disch := omega) [go_sem, -List.getD_eq_getElem?_getD, ite_yes, hlt, cs, csk]
        refine AIf.of (fun h2 => ?_) (fun h2 => ?_)
        · simp at h2
          simp -dsimp -implicitDefEqProofs (disch := omega) [go_sem, -List.getD_eq_getElem?_getD, ite_yes, hlt, cs, csk, ht]
          refine AIf.of (fun h3 => ?_) (fun h3 => ?_)
          · simp -dsimp -implicitDefEqProofs (disch := omega) [go_sem, -List.getD_eq_getElem?_getD, ite_yes, hlt, cs, csk]
            exact fin_flat rfl (by rw [goodA_no hlt (.inr ⟨h2, by simpa [goodAR] using h3⟩)])
          · simp -dsimp -implicitDefEqProofs (disch := omega) [go_sem, -List.getD_eq_getElem?_getD, ite_yes, hlt, cs, csk]
            exact LoopEnd.of (k + 1) ⟨by omega, hg.next (by simpa using h1) fun _ => by simpa [goodAR] using h3⟩ (by omega) (weakS_drop (by simp -dsimp -implicitDefEqProofs (disch := omega) [go_sem, -List.getD_eq_getElem?_getD, ite_yes, ht]))
        · simp at h2
          simp -dsimp -implicitDefEqProofs (disch := omega) [go_sem, -List.getD_eq_getElem?_getD, ite_yes, hlt, cs, csk]
          exact LoopEnd.of (k + 1) ⟨by omega, hg.next (by simpa using h1) fun h => by omega⟩ (by omega) (weakS_drop (by simp -dsimp -implicitDefEqProofs (disch := omega) [go_sem, -List.getD_eq_getElem?_getD, ite_yes, ht]))
    · simp -dsimp -implicitDefEqProofs (disch := omega) [go_sem, -List.getD_eq_getElem?_getD, ite_yes, hlt]
      obtain rfl : k = l.length := by omega
      exact fin_flat0 rfl (by rw [goodA_end hg])
theorem l21Alarms_A (l : List Al) (hl : l.length ≤ 1048577) (c : Nat) (H : Heap) (t : Nat) (hS : Sl alE H t l) :
    AFunC Try.prog 38 [.slice (some ⟨t, 0, none⟩) l.length c] H (.bool (goodA l)) H := by
  refine AFunC.of_body Try.func38 (by kernel_rfl) rfl (by kernel_rfl) (by simp [Try.ntmps38]) ?_
  have ht := hS.lt
  have cs := fun k hk => hS.cells (s := 4) (fun _ => rfl) (0, 0, 0, false) k hk
  have csk := fun k hk => hS.cell (s := 4) (fun _ => rfl) (0, 0, 0, false) k 0 hk (by omega)
  simp only [Nat.add_zero, alE] at csk cs
  simp -dsimp -implicitDefEqProofs (disch := omega) [go_sem, -List.getD_eq_getElem?_getD, ite_yes]
  refine ALoop.intro (ι := Nat) (fun k => k ≤ l.length ∧ goodATo l k) (fun k => [(0, .slice (some ⟨t, 0, none⟩) l.length c), (3, .int .i64 k)]) (fun _ => H) (fun k => l.length - k) 0 ⟨by omega, ascTo_zero⟩ ?_ ?_
  · exact weakS_same (by simp -dsimp -implicitDefEqProofs (disch := omega) [go_sem, -List.getD_eq_getElem?_getD, ite_yes, ht])
  · rintro k ⟨hk, hg⟩
    by_cases hlt : k < l.length
    · simp -dsimp -implicitDefEqProofs (disch := omega) [go_sem, -List.getD_eq_getElem?_getD, ite_yes, hlt, cs, ht]
      refine ADraw.quiet (by kernel_rfl) (by kernel_rfl) (by kernel_rfl) ?_
      simp -dsimp -implicitDefEqProofs (disch := omega) [go_sem, -List.getD_eq_getElem?_getD, ite_yes, hlt, cs, csk, ht]
      refine ACallQ.of (l21Alarm_A (l.getD k (0, 0, 0, false)) _) rfl ?_
      simp -dsimp -implicitDefEqProofs (disch := omega) [go_sem, -List.getD_eq_getElem?_getD, ite_yes, hlt, cs, csk, ht]
      refine AIf.of (fun h1 => ?_) (fun h1 => ?_)
      · simp -dsimp -implicitDefEqProofs (disch := omega) [go_sem, -List.getD_eq_getElem?_getD, ite_yes, hlt, cs, csk]
        exact fin_flat0 rfl (by rw [goodA_no hlt (.inl (by simpa using h1))])
      · simp -dsimp -implicitDefEqProofs (disch := omega) [go_sem, -List.getD_eq_getElem?_getD, ite_yes, hlt, cs, csk]
        refine AIf.of (fun h2 => ?_) (fun h2 => ?_)
        · simp at h2
          simp -dsimp -implicitDefEqProofs (disch := omega) [go_sem, -List.getD_eq_getElem?_getD, ite_yes, hlt, cs, csk, ht]
          refine AIf.of (fun h3 => ?_) (fun h3 => ?_)
          · simp -dsimp -implicitDefEqProofs (disch := omega) [go_sem, -List.getD_eq_getElem?_getD, ite_yes, hlt, cs, csk]
            exact fin_flat0 rfl (by rw [goodA_no hlt (.inr ⟨h2, by simpa [goodAR] using h3⟩)])
          · simp -dsimp -implicitDefEqProofs (disch := omega) [go_sem, -List.getD_eq_getElem?_getD, ite_yes, hlt, cs, csk]
            exact LoopEnd.of (k + 1) ⟨by omega, hg.next (by simpa using h1) fun _ => by simpa [goodAR] using h3⟩ (by omega) (weakS_same (by simp -dsimp -implicitDefEqProofs (disch := omega) [go_sem, -List.getD_eq_getElem?_getD, ite_yes, ht]))
        · simp at h2
          simp -dsimp -implicitDefEqProofs (disch := omega) [go_sem, -List.getD_eq_getElem?_getD, ite_yes, hlt, cs, csk]
          exact LoopEnd.of (k + 1) ⟨by omega, hg.next (by simpa using h1) fun h => by omega⟩ (by omega) (weakS_same (by simp -dsimp -implicitDefEqProofs (disch := omega) [go_sem, -List.getD_eq_getElem?_getD, ite_yes, ht]))
    · simp -dsimp -implicitDefEqProofs (disch := omega) [go_sem, -List.getD_eq_getElem?_getD, ite_yes, hlt]
      obtain rfl : k = l.length := by omega
      exact fin_flat0 rfl (by rw [goodA_end hg])
end Go.Proofs.Ytokafhinmakdnaa
