/- WorstValue: both sides, and the law. -/
import Derived.Test.YtjipihgcbanenaaSampleList
namespace Go.Proofs.Ytjipihgcbanenaa
open Go.Am
set_option linter.unusedVariables false
set_option linter.unusedSimpArgs false
set_option maxRecDepth 100000
set_option maxHeartbeats 1000000

/-- the worst of the first k samples of a kind, and how far it lies outside -/
def wvTo (l : List Sp) (kind : Int) : Nat → Int × Int
  | 0 => (-1, 0)
  | k + 1 => if (l.getD k (0, 0, 0, 0)).2.2.1 = kind ∧ (wvTo l kind k).2 < offN (l.getD k (0, 0, 0, 0)) then ((k : Int), offN (l.getD k (0, 0, 0, 0))) else wvTo l kind k
theorem offN_le {s : Sp} (h : isSmp s = true) : 0 ≤ offN s ∧ offN s ≤ 200000 := by
  have := smpKind h
  have h1 : 0 ≤ lowOf s.2.2.1 ∧ lowOf s.2.2.1 ≤ 100 := by unfold lowOf; split <;> omega
  have h2 : 0 ≤ highOf s.2.2.1 ∧ highOf s.2.2.1 ≤ 50000 := by
    unfold highOf
    split
    · omega
    · split
      · omega
      · split <;> omega
  unfold offN
  omega
theorem wvTo_inv {l : List Sp} (h : goodS l = true) (kind : Int) : ∀ k, k ≤ l.length → ((wvTo l kind k).1 = -1 ∧ (wvTo l kind k).2 = 0) ∨ (0 ≤ (wvTo l kind k).1 ∧ (wvTo l kind k).1 < k ∧ 0 < (wvTo l kind k).2)
  | 0, _ => .inl ⟨rfl, rfl⟩
  | k + 1, hk => by
    have ih := wvTo_inv h kind k (by omega)
    have g := offN_le (goodS_at h (show k < l.length by omega))
    simp only [wvTo]
    split
    · rename_i hh
      exact .inr ⟨by simp only; omega, by simp only; omega, by simp only; omega⟩
    · omega
def wvOk (l : List Sp) (kind : Int) : Bool := goodS l && inB kind 1 4
def wvN (l : List Sp) (kind : Int) : Int := if wvOk l kind = true then (if (wvTo l kind l.length).1 < 0 then 0 else (wvTo l kind l.length).1) else 0
def wvB (l : List Sp) (kind : Int) : Bool := if wvOk l kind = true then decide (0 < (wvTo l kind l.length).2) else false
theorem iWorst_A (l : List Sp) (kind : Int) (hl : l.length ≤ 1048577) (c : Nat) (H : Heap) (t : Nat) (hS : Sl spE H t l) :
    AFunC Try.prog 9 [.slice (some ⟨t, 0, none⟩) l.length c, .int .i64 kind] H (.tuple #[.int .i64 (wvN l kind), .bool (wvB l kind)]) H := by
  refine AFunC.of_body Try.func9 (by kernel_rfl) rfl (by kernel_rfl) (by simp [Try.ntmps9]) ?_
  have ht := hS.lt
  have cs := fun k hk => hS.cells (s := 4) (fun _ => rfl) (0, 0, 0, 0) k hk
  have cs2 := fun k hk => hS.cell (s := 4) (fun _ => rfl) (0, 0, 0, 0) k 2 hk (by omega)
  simp only [spE] at cs cs2
  simp -dsimp -implicitDefEqProofs (disch := omega) [go_sem, -List.getD_eq_getElem?_getD, ite_yes]
  refine ACall.of (areSamples_A l hl c _ t hS) ?_
  cases g1 : goodS l
  · simp -dsimp -implicitDefEqProofs (disch := omega) [go_sem, -List.getD_eq_getElem?_getD, ite_yes]
    exact fin_flat0 rfl (by simp [wvN, wvB, wvOk, g1])
  simp -dsimp -implicitDefEqProofs (disch := omega) [go_sem, -List.getD_eq_getElem?_getD, ite_yes]
  refine ACall.of (isSampleKind_A _ _) ?_
  cases g3 : inB kind 1 4
  · simp -dsimp -implicitDefEqProofs (disch := omega) [go_sem, -List.getD_eq_getElem?_getD, ite_yes]
    exact fin_flat0 rfl (by simp [wvN, wvB, wvOk, g1, g3])
  have gok : wvOk l kind = true := by simp [wvOk, g1, g3]
  have h15 := goodS_len g1
  simp -dsimp -implicitDefEqProofs (disch := omega) [go_sem, -List.getD_eq_getElem?_getD, ite_yes]
  refine ALoop.intro (ι := Nat) (fun k => k ≤ l.length) (fun k => [(1, .int .i64 kind), (6, .int .i64 (wvTo l kind k).1), (7, .int .i64 (wvTo l kind k).2), (18, .slice (some ⟨t, 0, none⟩) l.length c), (19, .int .i64 l.length), (20, .int .i64 k)]) (fun _ => H) (fun k => l.length - k) 0 (by omega) ?_ ?_
  · exact weakS_same (by simp -dsimp -implicitDefEqProofs (disch := omega) [go_sem, -List.getD_eq_getElem?_getD, ite_yes, ht, wvTo])
  · intro k hk
    have inv := wvTo_inv g1 kind k hk
    by_cases hlt : k < l.length
    · have ck := cs k hlt
      have hs := goodS_at g1 hlt
      have ob := offN_le hs
      have e : wvTo l kind (k + 1) = if (l.getD k (0, 0, 0, 0)).2.2.1 = kind ∧ (wvTo l kind k).2 < offN (l.getD k (0, 0, 0, 0)) then ((k : Int), offN (l.getD k (0, 0, 0, 0))) else wvTo l kind k := rfl
      generalize hx : l.getD k (0, 0, 0, 0) = x at *
      generalize wvTo l kind k = s at *
      by_cases h1 : x.2.2.1 = kind
      · have h1e : (x.2.2.1 = kind) = True := eq_true h1
        simp -dsimp -implicitDefEqProofs (disch := omega) [go_sem, -List.getD_eq_getElem?_getD, ite_yes, hlt, ck, h1e]
        refine ACall.of (outside_A x hs _) ?_
        by_cases h2 : s.2 < offN x
        · rw [if_pos ⟨h1, h2⟩] at e
          simp -dsimp -implicitDefEqProofs (disch := omega) [go_sem, -List.getD_eq_getElem?_getD, ite_yes, h2]
          refine ACall.of (outside_A x hs _) ?_
          simp -dsimp -implicitDefEqProofs (disch := omega) [go_sem, -List.getD_eq_getElem?_getD, ite_yes]
          exact LoopEnd.of (k + 1) (by omega) (by omega) (weakS_drop (by simp -dsimp -implicitDefEqProofs (disch := omega) [go_sem, -List.getD_eq_getElem?_getD, ite_yes, ht, e]))
        · rw [if_neg (fun h => h2 h.2)] at e
          simp -dsimp -implicitDefEqProofs (disch := omega) [go_sem, -List.getD_eq_getElem?_getD, ite_yes, h2]
          exact LoopEnd.of (k + 1) (by omega) (by omega) (weakS_drop (by simp -dsimp -implicitDefEqProofs (disch := omega) [go_sem, -List.getD_eq_getElem?_getD, ite_yes, ht, e]))
      · rw [if_neg (fun h => h1 h.1)] at e
        simp -dsimp -implicitDefEqProofs (disch := omega) [go_sem, -List.getD_eq_getElem?_getD, ite_yes, hlt, ck, h1]
        exact LoopEnd.of (k + 1) (by omega) (by omega) (weakS_drop (by simp -dsimp -implicitDefEqProofs (disch := omega) [go_sem, -List.getD_eq_getElem?_getD, ite_yes, ht, e]))
    · have hk' : k = l.length := by omega
      have eN : wvN l kind = if (wvTo l kind k).1 < 0 then 0 else (wvTo l kind k).1 := by unfold wvN; rw [if_pos gok, ← hk']
      have eB : wvB l kind = decide (0 < (wvTo l kind k).2) := by unfold wvB; rw [if_pos gok, ← hk']
      by_cases hw : (wvTo l kind k).1 < 0
      · simp -dsimp -implicitDefEqProofs (disch := omega) [go_sem, -List.getD_eq_getElem?_getD, ite_yes, hlt, hw]
        exact fin_flat0 rfl (by rw [eN, eB, if_pos hw, decide_eq_false (by omega)])
      · simp -dsimp -implicitDefEqProofs (disch := omega) [go_sem, -List.getD_eq_getElem?_getD, ite_yes, hlt, hw]
        exact fin_flat0 rfl (by rw [eN, eB, if_neg hw, decide_eq_true (by omega)])
theorem sWorst_A (l : List Sp) (kind : Int) (hl : l.length ≤ 1048577) (c : Nat) (H : Heap) (t : Nat) (hS : Sl spE H t l) :
    AFunC Try.prog 7 [.slice (some ⟨t, 0, none⟩) l.length c, .int .i64 kind] H (.tuple #[.int .i64 (wvN l kind), .bool (wvB l kind)]) H := by
  refine AFunC.of_body Try.func7 (by kernel_rfl) rfl (by kernel_rfl) (by simp [Try.ntmps7]) ?_
  have ht := hS.lt
  have cs := fun k hk => hS.cells (s := 4) (fun _ => rfl) (0, 0, 0, 0) k hk
  have cs2 := fun k hk => hS.cell (s := 4) (fun _ => rfl) (0, 0, 0, 0) k 2 hk (by omega)
  simp only [spE] at cs cs2
  simp -dsimp -implicitDefEqProofs (disch := omega) [go_sem, -List.getD_eq_getElem?_getD, ite_yes]
  refine ACall.of (l23Good_A l hl c _ t hS) ?_
  cases g1 : goodS l
  · simp -dsimp -implicitDefEqProofs (disch := omega) [go_sem, -List.getD_eq_getElem?_getD, ite_yes]
    exact fin_flat0 rfl (by simp [wvN, wvB, wvOk, g1])
  simp -dsimp -implicitDefEqProofs (disch := omega) [go_sem, -List.getD_eq_getElem?_getD, ite_yes]
  refine ACall.of (l23Kind_A _ _) ?_
  cases g3 : inB kind 1 4
  · simp -dsimp -implicitDefEqProofs (disch := omega) [go_sem, -List.getD_eq_getElem?_getD, ite_yes]
    exact fin_flat0 rfl (by simp [wvN, wvB, wvOk, g1, g3])
  have gok : wvOk l kind = true := by simp [wvOk, g1, g3]
  have h15 := goodS_len g1
  simp -dsimp -implicitDefEqProofs (disch := omega) [go_sem, -List.getD_eq_getElem?_getD, ite_yes]
  refine ALoop.intro (ι := Nat) (fun k => k ≤ l.length) (fun k => [(0, .slice (some ⟨t, 0, none⟩) l.length c), (1, .int .i64 kind), (6, .int .i64 (if (wvTo l kind k).1 < 0 then 0 else (wvTo l kind k).1)), (7, .int .i64 (wvTo l kind k).2), (8, .int .i64 k)]) (fun _ => H) (fun k => l.length - k) 0 (by omega) ?_ ?_
  · exact weakS_same (by simp -dsimp -implicitDefEqProofs (disch := omega) [go_sem, -List.getD_eq_getElem?_getD, ite_yes, ht, wvTo])
  · intro k hk
    have inv := wvTo_inv g1 kind k hk
    by_cases hlt : k < l.length
    · have ck := cs k hlt
      have ck2 := cs2 k hlt
      have hs := goodS_at g1 hlt
      have ob := offN_le hs
      have e : wvTo l kind (k + 1) = if (l.getD k (0, 0, 0, 0)).2.2.1 = kind ∧ (wvTo l kind k).2 < offN (l.getD k (0, 0, 0, 0)) then ((k : Int), offN (l.getD k (0, 0, 0, 0))) else wvTo l kind k := rfl
      have k0 : ¬ (k : Int) < 0 := by omega
      generalize hx : l.getD k (0, 0, 0, 0) = x at *
      generalize wvTo l kind k = s at *
      by_cases h1 : x.2.2.1 = kind
      · have h1e : (x.2.2.1 = kind) = True := eq_true h1
        simp -dsimp -implicitDefEqProofs (disch := omega) [go_sem, -List.getD_eq_getElem?_getD, ite_yes, hlt, ck, ck2, h1e]
        refine ACall.of (l23Off_A x hs _) ?_
        by_cases h2 : s.2 < offN x
        · rw [if_pos ⟨h1, h2⟩] at e
          simp -dsimp -implicitDefEqProofs (disch := omega) [go_sem, -List.getD_eq_getElem?_getD, ite_yes, h2, hlt, ck]
          refine ACall.of (l23Off_A x hs _) ?_
          simp -dsimp -implicitDefEqProofs (disch := omega) [go_sem, -List.getD_eq_getElem?_getD, ite_yes]
          exact LoopEnd.of (k + 1) (by omega) (by omega) (weakS_same (by simp -dsimp -implicitDefEqProofs (disch := omega) [go_sem, -List.getD_eq_getElem?_getD, ite_yes, ht, e, k0]))
        · rw [if_neg (fun h => h2 h.2)] at e
          simp -dsimp -implicitDefEqProofs (disch := omega) [go_sem, -List.getD_eq_getElem?_getD, ite_yes, h2]
          exact LoopEnd.of (k + 1) (by omega) (by omega) (weakS_same (by simp -dsimp -implicitDefEqProofs (disch := omega) [go_sem, -List.getD_eq_getElem?_getD, ite_yes, ht, e]))
      · rw [if_neg (fun h => h1 h.1)] at e
        simp -dsimp -implicitDefEqProofs (disch := omega) [go_sem, -List.getD_eq_getElem?_getD, ite_yes, hlt, ck, ck2, h1]
        exact LoopEnd.of (k + 1) (by omega) (by omega) (weakS_same (by simp -dsimp -implicitDefEqProofs (disch := omega) [go_sem, -List.getD_eq_getElem?_getD, ite_yes, ht, e]))
    · have hk' : k = l.length := by omega
      have eN : wvN l kind = if (wvTo l kind k).1 < 0 then 0 else (wvTo l kind k).1 := by unfold wvN; rw [if_pos gok, ← hk']
      have eB : wvB l kind = decide (0 < (wvTo l kind k).2) := by unfold wvB; rw [if_pos gok, ← hk']
      simp -dsimp -implicitDefEqProofs (disch := omega) [go_sem, -List.getD_eq_getElem?_getD, ite_yes, hlt]
      exact fin_flat0 rfl (by rw [eN, eB])
theorem lawWorstValue_A (l : List Sp) (hl0 : l.length ≤ 9223372036854775807) (c0 : Nat) (kind : Int) (H : Heap) (t0 : Nat) (hS0 : Sl spE H t0 l) :
    AFunC Try.prog 3 [.slice (some ⟨t0, 0, none⟩) l.length c0, .int .i64 kind] H (.bool true) H := by
  refine AFunC.of_body Try.func3 (by kernel_rfl) rfl (by kernel_rfl) (by simp [Try.ntmps3]) ?_
  have ht0 := hS0.lt
  simp -dsimp -implicitDefEqProofs (disch := omega) [go_sem, -List.getD_eq_getElem?_getD, ite_yes, ht0]
  refine ACall.of (szSp_A l.length c0 (by omega) _ (by omega) (by omega) t0 _) ?_
  simp -dsimp -implicitDefEqProofs (disch := omega) [go_sem, -List.getD_eq_getElem?_getD, ite_yes, ht0]
  refine AIf.of (fun h => ?_) (fun h => ?_)
  · simp -dsimp -implicitDefEqProofs (disch := omega) [go_sem, -List.getD_eq_getElem?_getD, ite_yes]
    first | exact fin_flat0 rfl rfl | exact fin_flat rfl rfl
  have hlen0 : l.length ≤ 1048577 := by
    have := szSp_len (by simpa using h)
    omega
  simp -dsimp -implicitDefEqProofs (disch := omega) [go_sem, -List.getD_eq_getElem?_getD, ite_yes, ht0]
  refine ACall.of (toSpS_A l hlen0 c0 _ t0 hS0) ?_
  simp -dsimp -implicitDefEqProofs (disch := omega) [go_sem, -List.getD_eq_getElem?_getD, ite_yes, ht0]
  refine ACall.of (sWorst_A l kind hlen0 _ _ _ (Sl.of rfl)) ?_
  simp -dsimp -implicitDefEqProofs (disch := omega) [go_sem, -List.getD_eq_getElem?_getD, ite_yes, ht0]
  refine ACall.of (toSpS_A l hlen0 c0 _ t0 hS0.app) ?_
  simp -dsimp -implicitDefEqProofs (disch := omega) [go_sem, -List.getD_eq_getElem?_getD, ite_yes, ht0]
  refine ACall.of (iWorst_A l kind hlen0 _ _ _ (Sl.nth 1 rfl rfl)) ?_
  simp -dsimp -implicitDefEqProofs (disch := omega) [go_sem, -List.getD_eq_getElem?_getD, ite_yes, ht0]
  refine ACall.of (toSpS_A l hlen0 c0 _ t0 hS0.app) ?_
  simp -dsimp -implicitDefEqProofs (disch := omega) [go_sem, -List.getD_eq_getElem?_getD, ite_yes, ht0]
  refine ACall.of (eqSpS_A l l hlen0 hlen0 _ _ _ _ _ (Sl.nth 1 rfl rfl) (Sl.nth 2 rfl rfl)) ?_
  simp -dsimp -implicitDefEqProofs (disch := omega) [go_sem, -List.getD_eq_getElem?_getD, ite_yes, ht0]
  exact fin_flat rfl rfl
end Go.Proofs.Ytjipihgcbanenaa
