/- PayBills: both sides, and the law. -/
import Derived.Test.YthnnbgggfpempaaDoorBills
import Derived.Test.YthnnbgggfpempaaDoorFrac
namespace Go.Proofs.YthnnbgggfpempaaDoor
open Go.Am
set_option linter.unusedVariables false
set_option linter.unusedSimpArgs false
set_option maxRecDepth 100000

def payOk (l : List Bl) (cents : Int) : Bool := goodB l && inB cents 0 1000000000
def ownOf (b : Bl) (cents : Int) : Int := min (b.2.2.1 - b.2.2.2) cents
/-- what is left after the first k bills -/
def payN (l : List Bl) (cents : Int) : Nat → Int
  | 0 => cents
  | k + 1 => payN l cents k - ownOf (l.getD k (0, 0, 0, 0)) (payN l cents k)
def payB (l : List Bl) (cents : Int) (k : Nat) : Bl := ((l.getD k (0, 0, 0, 0)).1, (l.getD k (0, 0, 0, 0)).2.1, (l.getD k (0, 0, 0, 0)).2.2.1, (l.getD k (0, 0, 0, 0)).2.2.2 + ownOf (l.getD k (0, 0, 0, 0)) (payN l cents k))
def payL (l : List Bl) (cents : Int) : List Bl := (List.range l.length).map (payB l cents)
theorem payL_length (l : List Bl) (cents : Int) : (payL l cents).length = l.length := by simp [payL]
theorem payL_getD (l : List Bl) (cents : Int) {k : Nat} (h : k < l.length) : (payL l cents).getD k (0, 0, 0, 0) = payB l cents k := by simp [payL, List.getD, h]
theorem payN_bound {l : List Bl} {cents : Int} (h : goodB l = true) (hc : 0 ≤ cents ∧ cents ≤ 1000000000) : ∀ k, k ≤ l.length → 0 ≤ payN l cents k ∧ payN l cents k ≤ 1000000000
  | 0, _ => hc
  | k + 1, hk => by
    have ih := payN_bound h hc k (by omega)
    have g := (goodB_at h).2 k (by omega)
    simp only [payN, ownOf]
    omega
/-- the bills, of which the first k are paid -/
def payMix (l : List Bl) (cents : Int) (k : Nat) : List Bl := mixL l (payL l cents) k
theorem payMix_step {l : List Bl} {cents : Int} {k : Nat} (h : k < l.length) : (payMix l cents k).set k (payB l cents k) = payMix l cents (k + 1) := by
  have := mixL_next (l := l) (m := payL l cents) (payL_length _ _) (0, 0, 0, 0) h
  rwa [payL_getD _ _ h] at this
theorem payMix_length {l : List Bl} {cents : Int} {k : Nat} (h : k ≤ l.length) : (payMix l cents k).length = l.length := mixL_length (payL_length _ _) h
theorem payMix_getD {l : List Bl} {cents : Int} {k : Nat} (h : k < l.length) : (payMix l cents k).getD k (0, 0, 0, 0) = l.getD k (0, 0, 0, 0) := mixL_getD (payL_length _ _) _ (Nat.le_refl _) h
theorem payMix_all {l : List Bl} {cents : Int} : payMix l cents l.length = payL l cents := mixL_all (payL_length _ _)
theorem payMix_cells {l : List Bl} {cents : Int} {k : Nat} (h : k < l.length) : List.take 4 (List.drop (k * 4) ((payMix l cents k).flatMap blE)) = blE (l.getD k (0, 0, 0, 0)) := by
  have := flatMap_cells blE 4 (fun _ => rfl) (0, 0, 0, 0) (payMix l cents k) k (by rw [payMix_length (by omega)]; exact h)
  rw [this, payMix_getD h]
theorem payMix_cell3 {l : List Bl} {cents : Int} {k : Nat} (h : k < l.length) : List.take 1 (List.drop (k * 4 + 3) ((payMix l cents k).flatMap blE)) = [.int .i64 (l.getD k (0, 0, 0, 0)).2.2.2] := by
  have := payMix_cells (cents := cents) h
  have h2 : List.take 1 (List.drop 3 (List.take 4 (List.drop (k * 4) ((payMix l cents k).flatMap blE)))) = [.int .i64 (l.getD k (0, 0, 0, 0)).2.2.2] := by rw [this]; rfl
  rw [List.drop_take, List.drop_drop, List.take_take] at h2
  exact h2
theorem payMix_set {l : List Bl} {cents : Int} {k : Nat} (h : k < l.length) : ((payMix l cents k).flatMap blE).set (k * 4 + 3) (.int .i64 ((l.getD k (0, 0, 0, 0)).2.2.2 + ownOf (l.getD k (0, 0, 0, 0)) (payN l cents k))) = (payMix l cents (k + 1)).flatMap blE := by
  rw [← payMix_step h]
  refine set_cell (s := 4) (fun _ => rfl) _ (0, 0, 0, 0) (by rw [payMix_length (by omega)]; exact h) (by omega) ?_
  rw [payMix_getD h]
  rfl
theorem payMix_put {l : List Bl} {cents : Int} {k : Nat} (h : k < l.length) : ((payMix l cents k).flatMap blE).take (k * 4) ++ (blE (payB l cents k) ++ ((payMix l cents k).flatMap blE).drop (k * 4 + 4)) = (payMix l cents (k + 1)).flatMap blE := by
  rw [← payMix_step h]
  exact (set_flat_eq (s := 4) (fun _ => rfl) _ (by rw [payMix_length (by omega)]; exact h)).symm
theorem payLen {l : List Bl} {cents : Int} {k : Nat} (h : k ≤ l.length) : ((payMix l cents k).flatMap blE).length = l.length * 4 := by rw [blE_length, payMix_length h]
theorem iPay_bad (l : List Bl) (cents : Int) (hl : l.length ≤ 1048577) (hg : payOk l cents = false) (c : Nat) (H : Heap) (t : Nat) (hS : Sl blE H t l) :
    AFunC Tryd.prog 30 [.slice (some ⟨t, 0, none⟩) l.length c, .int .i64 cents] H (.tuple #[.slice none 0 0, .int .i64 0, .bool false]) H := by
  refine AFunC.of_body Tryd.func30 (by kernel_rfl) rfl (by kernel_rfl) (by simp [Tryd.ntmps30]) ?_
  have ht := hS.lt
  simp -dsimp -implicitDefEqProofs (disch := omega) [go_sem, -List.getD_eq_getElem?_getD, ite_yes]
  refine ACall.of (iValidBills_A l hl c H t hS) ?_
  cases g1 : goodB l
  · simp -dsimp -implicitDefEqProofs (disch := omega) [go_sem, -List.getD_eq_getElem?_getD, ite_yes]
    exact fin_flat0 rfl rfl
  simp -dsimp -implicitDefEqProofs (disch := omega) [go_sem, -List.getD_eq_getElem?_getD, ite_yes]
  refine ACall.of (inside_A _ _ _ _) ?_
  have g2 : inB cents 0 1000000000 = false := by simpa [payOk, g1] using hg
  simp -dsimp -implicitDefEqProofs (disch := omega) [go_sem, -List.getD_eq_getElem?_getD, ite_yes, g2]
  exact fin_flat0 rfl rfl
theorem iPay_good (l : List Bl) (cents : Int) (hl : l.length ≤ 1048577) (hg : payOk l cents = true) (c : Nat) (H : Heap) (t : Nat) (hS : Sl blE H t l) :
    AFunC Tryd.prog 30 [.slice (some ⟨t, 0, none⟩) l.length c, .int .i64 cents] H (.tuple #[.slice (some ⟨H.length, 0, none⟩) (payL l cents).length (payL l cents).length, .int .i64 (payN l cents l.length), .bool true]) (H ++ [some ⟨(payL l cents).flatMap blE, true, 42, 4⟩]) := by
  rw [payL_length]
  refine AFunC.of_body Tryd.func30 (by kernel_rfl) rfl (by kernel_rfl) (by simp [Tryd.ntmps30]) ?_
  have ht := hS.lt
  have al := hS.all (s := 4) (fun _ => rfl)
  have lf := blE_length l
  simp only [payOk, Bool.and_eq_true] at hg
  obtain ⟨g1, g2⟩ := hg
  have g2' := g2
  simp only [inB, Bool.and_eq_true, decide_eq_true_eq] at g2'
  have hat := (goodB_at g1).2
  have h12 := (goodB_at g1).1
  simp -dsimp -implicitDefEqProofs (disch := omega) [go_sem, -List.getD_eq_getElem?_getD, ite_yes]
  refine ACall.of (iValidBills_A l hl c H t hS) ?_
  simp -dsimp -implicitDefEqProofs (disch := omega) [go_sem, -List.getD_eq_getElem?_getD, ite_yes, g1]
  refine ACall.of (inside_A _ _ _ _) ?_
  simp -dsimp -implicitDefEqProofs (disch := omega) [go_sem, -List.getD_eq_getElem?_getD, ite_yes, g2, al, ht, lf]
  refine ⟨by omega, ?_⟩
  refine ALoop.intro (ι := Nat) (fun k => k ≤ l.length) (fun k => [(1, .int .i64 (payN l cents k)), (7, .slice (some ⟨H.length, 0, none⟩) l.length l.length), (22, .slice (some ⟨H.length, 0, none⟩) l.length l.length), (23, .int .i64 l.length), (24, .int .i64 k)]) (fun k => H ++ [some ⟨(payMix l cents k).flatMap blE, true, 42, 4⟩]) (fun k => l.length - k) 0 (by omega) ?_ ?_
  · refine weakS_mk [some 1] rfl ?_ (by simp -dsimp -implicitDefEqProofs (disch := omega) [go_sem, -List.getD_eq_getElem?_getD, ite_yes, ht, payN])
    simp -dsimp -implicitDefEqProofs (disch := omega) [go_sem, -List.getD_eq_getElem?_getD, ite_yes]
    exact .inl ⟨by simp [payMix, mixL_zero], blE_flat _⟩
  · intro k hk
    have hfl := payLen (l := l) (cents := cents) hk
    by_cases hlt : k < l.length
    · have b1 := hat k hlt
      have b2 := payN_bound g1 g2' k hk
      have c1 := payMix_cells (cents := cents) hlt
      have c2 := payMix_cell3 (cents := cents) hlt
      have c3 := payMix_set (cents := cents) hlt
      simp only [blE] at c1
      have o1 : (if payN l cents k < (l.getD k (0, 0, 0, 0)).2.2.1 - (l.getD k (0, 0, 0, 0)).2.2.2 then payN l cents k else (l.getD k (0, 0, 0, 0)).2.2.1 - (l.getD k (0, 0, 0, 0)).2.2.2) = ownOf (l.getD k (0, 0, 0, 0)) (payN l cents k) := by unfold ownOf; split <;> omega
      have o2 : 0 ≤ ownOf (l.getD k (0, 0, 0, 0)) (payN l cents k) ∧ ownOf (l.getD k (0, 0, 0, 0)) (payN l cents k) ≤ payN l cents k ∧ (l.getD k (0, 0, 0, 0)).2.2.2 + ownOf (l.getD k (0, 0, 0, 0)) (payN l cents k) ≤ 1000000000 := by unfold ownOf; omega
      have l1 : k * 4 + 4 ≤ l.length * 4 := by omega
      have l2 : k * 4 + 3 + 1 ≤ l.length * 4 := by omega
      simp -dsimp -implicitDefEqProofs (disch := omega) [go_sem, -List.getD_eq_getElem?_getD, ite_yes, hlt, ht, hfl, c1, c2, l1, l2, o1]
      refine LoopEnd.of (k + 1) (by omega) (by omega) (weakS_mk [some 0] rfl ?_ (by simp -dsimp -implicitDefEqProofs (disch := omega) [go_sem, -List.getD_eq_getElem?_getD, ite_yes, ht, payN]))
      simp -dsimp -implicitDefEqProofs (disch := omega) [go_sem, -List.getD_eq_getElem?_getD, ite_yes]
      exact .inl ⟨c3.symm, (congrArg (fun x => List.all x flat) c3).trans (blE_flat _)⟩
    · simp -dsimp -implicitDefEqProofs (disch := omega) [go_sem, -List.getD_eq_getElem?_getD, ite_yes, hlt]
      obtain rfl : k = l.length := by omega
      refine fin_list [some 0] rfl ?_ (by simp -dsimp -implicitDefEqProofs (disch := omega) [go_sem, -List.getD_eq_getElem?_getD, ite_yes])
      simp -dsimp -implicitDefEqProofs (disch := omega) [go_sem, -List.getD_eq_getElem?_getD, ite_yes]
      exact .inl ⟨by rw [payMix_all], blE_flat _⟩
theorem payL_le {l : List Bl} {cents : Int} (h : l.length ≤ 1048577) : (payL l cents).length ≤ 1048577 := by rw [payL_length]; exact h
end Go.Proofs.YthnnbgggfpempaaDoor
