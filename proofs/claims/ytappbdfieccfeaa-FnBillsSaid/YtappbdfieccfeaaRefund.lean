/- RefundBill: the deletion, and both sides. -/
import Derived.Test.YtappbdfieccfeaaOldestOpen
import Derived.Test.YtappbdfieccfeaaValidBills
import Derived.Test.YtappbdfieccfeaaAm18
namespace Go.Proofs.Ytappbdfieccfeaa
open Go.Am
set_option linter.unusedVariables false
set_option linter.unusedSimpArgs false
set_option maxRecDepth 100000
set_option maxHeartbeats 2000000

theorem bl_take (l : List Bl) : ∀ k, List.take (k * 4) (l.flatMap blE) = (l.take k).flatMap blE := by
  induction l with
  | nil => intro k; simp
  | cons x l ih =>
    intro k
    cases k with
    | zero => simp
    | succ k =>
      rw [List.flatMap_cons, List.take_succ_cons, List.flatMap_cons, ← ih k, show (k + 1) * 4 = (blE x).length + k * 4 by simp [blE]; omega, List.take_length_add_append]
theorem bl_drop (l : List Bl) : ∀ k, List.drop (k * 4) (l.flatMap blE) = (l.drop k).flatMap blE := by
  induction l with
  | nil => intro k; simp
  | cons x l ih =>
    intro k
    cases k with
    | zero => simp
    | succ k =>
      rw [List.flatMap_cons, List.drop_succ_cons, ← ih k, show (k + 1) * 4 = (blE x).length + k * 4 by simp [blE]; omega, List.drop_length_add_append]
def cutB (l : List Bl) (i : Nat) : List Bl := l.take i ++ l.drop (i + 1)
theorem cutB_length {l : List Bl} {i : Nat} (h : i < l.length) : (cutB l i).length = l.length - 1 := by
  unfold cutB
  rw [List.length_append, List.length_take, List.length_drop]
  omega
theorem delete_A (l : List Bl) (i : Nat) (hi : i < l.length) (hl : l.length ≤ 1048577) (c : Nat) (H : Heap) (t : Nat) (hb : H.get t = some ⟨l.flatMap blE, true, 62, 4⟩) :
    AFunC Try.prog 41 [.slice (some ⟨t, 0, none⟩) l.length c, .int .i64 i, .int .i64 ((i : Int) + 1)] H (.slice (some ⟨t, 0, none⟩) (l.length - 1) 0) (H.set t (some ⟨(cutB l i ++ [(0, 0, 0, 0)]).flatMap blE, true, 62, 4⟩)) := by
  refine AFunC.of_body Try.func41 (by kernel_rfl) rfl (by kernel_rfl) (by simp [Try.ntmps41]) ?_
  have ht := Heap.get_lt hb
  have lf := blE_length l
  have hne : ¬ (i : Int) = (i : Int) + 1 := by omega
  have gs := fun x => Heap.get_set_self (H := H) ht (x := x)
  have gg := hb
  have f0 : (l.flatMap blE).length = l.length * 4 := lf
  have hc := cutB_length hi
  have f1 : List.take (i * 4) (l.flatMap blE) ++ (List.drop ((i + 1) * 4) (l.flatMap blE) ++ List.drop ((l.length - 1) * 4) (l.flatMap blE)) = (cutB l i ++ l.drop (l.length - 1)).flatMap blE := by
    rw [bl_take, bl_drop, bl_drop, cutB, List.flatMap_append, List.flatMap_append, List.append_assoc]
  have hq : ¬ l.length * 4 = i * 4 := by omega
  have n1 : i + (l.length - (i + 1)) = l.length - 1 := by omega
  have n2 : (i : Int) + ((l.length - (i + 1) : Nat) : Int) = ((l.length - 1 : Nat) : Int) := by omega
  have n3 : ¬ (l.length : Int) ≤ ((l.length - 1 : Nat) : Int) := by omega
  have n4 : ((l.length - 1 : Nat) : Int) ≤ (l.length : Int) := by omega
  have n5 : l.length - (l.length - 1) = 1 := by omega
  have bs := fun (b : Blk) => (by unfold blkSz; rw [gs] : blkSz (H.set t (some b)) t = some b.sz)
  have sl := fun (b : Blk) => (gs (some b))
  have dl : (l.drop (l.length - 1)).length = 1 := by rw [List.length_drop]; omega
  obtain ⟨x, hx⟩ : ∃ x, l.drop (l.length - 1) = [x] := List.length_eq_one_iff.1 dl
  rw [hx] at f1
  have f2 : List.take ((l.length - 1) * 4) ((cutB l i ++ [x]).flatMap blE) = (cutB l i).flatMap blE := by rw [bl_take, List.take_left' hc]
  have f3 : List.drop ((l.length - 1) * 4 + 4) ((cutB l i ++ [x]).flatMap blE) = [] := by
    rw [show (l.length - 1) * 4 + 4 = (l.length - 1 + 1) * 4 by omega, bl_drop, List.drop_of_length_le (by rw [List.length_append, hc]; simp)]; rfl
  have f4 : ((cutB l i ++ [x]).flatMap blE).length = l.length * 4 := by rw [blE_length, List.length_append, hc]; simp; omega
  have f5 : (cutB l i ++ [(0, 0, 0, 0)]).flatMap blE = (cutB l i).flatMap blE ++ [.int .i64 0, .int .i64 0, .int .i64 0, .int .i64 0] := by rw [List.flatMap_append]; rfl
  have fl : ((cutB l i).flatMap blE ++ [Value.int .i64 0, .int .i64 0, .int .i64 0, .int .i64 0]).all flat = true := by rw [← f5]; exact blE_flat _
  generalize hM : (cutB l i ++ [x]).flatMap blE = M at f1 f2 f3 f4
  have bz : blkSz H t = some 4 := by unfold blkSz; rw [hb]
  have ac : aCells H ⟨t, (i + 1) * 4, none⟩ ((l.length - (i + 1)) * 4) = some (List.drop ((i + 1) * 4) (l.flatMap blE)) := by
    rw [aCells_eq, hb, aC1]
    simp only [lf]
    rw [if_pos (by omega), List.take_of_length_le (by rw [List.length_drop, lf]; omega)]
  simp -dsimp -implicitDefEqProofs (disch := omega) [go_sem, -List.getD_eq_getElem?_getD, ite_yes, ht]
  refine ⟨⟨by omega, by omega⟩, ?_⟩
  simp -dsimp -implicitDefEqProofs (disch := omega) [go_sem, -List.getD_eq_getElem?_getD, ite_yes, ht, hne]
  refine ADraw.any [] (by kernel_rfl) (SubH.nil) ?_
  refine AAny.takes (fuel := 4) (by kernel_rfl) (by kernel_rfl) [0, 1, 3, 4] (by kernel_rfl) (by kernel_rfl) ?_
  simp -dsimp -implicitDefEqProofs (disch := omega) [go_sem, -List.getD_eq_getElem?_getD, ite_yes, ht, hb, lf, gs, bz, ac, hq, n1, n2, n3, n4, n5, bs, f1, f2, f3, f4]
  refine AAny.two 3 2 5 (by kernel_rfl) (by kernel_rfl) (by kernel_rfl) ?_ ?_
  · simp -dsimp -implicitDefEqProofs (disch := omega) [go_sem, -List.getD_eq_getElem?_getD, ite_yes, ht, hb, lf, gs, bz, ac, hq, n1, n2, n3, n4, n5, bs, f1, f2, f3, f4]
    first | refine AAt.of (SubH.nil) ?_ | (refine ⟨?_, AAt.of (SubH.nil) ?_⟩; · omega)
    refine AAny.one 2 5 (by kernel_rfl) (by kernel_rfl) (by kernel_rfl) ?_
    simp -dsimp -implicitDefEqProofs (disch := omega) [go_sem, -List.getD_eq_getElem?_getD, ite_yes, ht, hb, lf, gs, bz, ac, hq, n1, n2, n3, n4, n5, bs, f1, f2, f3, f4]
    first | refine AAt.of (SubH.nil) ?_ | (refine ⟨?_, AAt.of (SubH.nil) ?_⟩; · omega)
    refine AAny.one 1 6 (by kernel_rfl) (by kernel_rfl) (by kernel_rfl) ?_
    simp -dsimp -implicitDefEqProofs (disch := omega) [go_sem, -List.getD_eq_getElem?_getD, ite_yes, ht, hb, lf, gs, bz, ac, hq, n1, n2, n3, n4, n5, bs, f1, f2, f3, f4]
    first | refine AAt.of (SubH.nil) ?_ | (refine ⟨?_, AAt.of (SubH.nil) ?_⟩; · omega)
    refine AAny.takes (fuel := 0) (by kernel_rfl) (by kernel_rfl) [7] (by kernel_rfl) (by kernel_rfl) ?_
    simp -dsimp -implicitDefEqProofs (disch := omega) [go_sem, -List.getD_eq_getElem?_getD, ite_yes, ht, hb, lf, gs, bz, ac, hq, n1, n2, n3, n4, n5, bs, f1, f2, f3, f4]
    refine AAny.done (by kernel_rfl) ?_
    simp -dsimp -implicitDefEqProofs (disch := omega) [go_sem, -List.getD_eq_getElem?_getD, ite_yes, ht, hb, lf, gs, bz, ac, hq, n1, n2, n3, n4, n5, bs, f1, f2, f3, f4]
    refine ⟨by omega, fin_setA (b := ⟨(cutB l i).flatMap blE ++ [.int .i64 0, .int .i64 0, .int .i64 0, .int .i64 0], true, 62, 4⟩) [] ht (L2.refl fun x hx => WM_flat (List.all_eq_true.1 fl x hx)) rfl (by simp) (by simp -dsimp -implicitDefEqProofs (disch := omega) [go_sem, -List.getD_eq_getElem?_getD, ite_yes, ht])⟩
  · simp -dsimp -implicitDefEqProofs (disch := omega) [go_sem, -List.getD_eq_getElem?_getD, ite_yes, ht, hb, lf, gs, bz, ac, hq, n1, n2, n3, n4, n5, bs, f1, f2, f3, f4]
    first | refine AAt.of (SubH.nil) ?_ | (refine ⟨?_, AAt.of (SubH.nil) ?_⟩; · omega)
    refine AAny.one 2 2 (by kernel_rfl) (by kernel_rfl) (by kernel_rfl) ?_
    simp -dsimp -implicitDefEqProofs (disch := omega) [go_sem, -List.getD_eq_getElem?_getD, ite_yes, ht, hb, lf, gs, bz, ac, hq, n1, n2, n3, n4, n5, bs, f1, f2, f3, f4]
    first | refine AAt.of (SubH.nil) ?_ | (refine ⟨?_, AAt.of (SubH.nil) ?_⟩; · omega)
    refine AAny.one 1 6 (by kernel_rfl) (by kernel_rfl) (by kernel_rfl) ?_
    simp -dsimp -implicitDefEqProofs (disch := omega) [go_sem, -List.getD_eq_getElem?_getD, ite_yes, ht, hb, lf, gs, bz, ac, hq, n1, n2, n3, n4, n5, bs, f1, f2, f3, f4]
    first | refine AAt.of (SubH.nil) ?_ | (refine ⟨?_, AAt.of (SubH.nil) ?_⟩; · omega)
    refine AAny.takes (fuel := 0) (by kernel_rfl) (by kernel_rfl) [7] (by kernel_rfl) (by kernel_rfl) ?_
    simp -dsimp -implicitDefEqProofs (disch := omega) [go_sem, -List.getD_eq_getElem?_getD, ite_yes, ht, hb, lf, gs, bz, ac, hq, n1, n2, n3, n4, n5, bs, f1, f2, f3, f4]
    refine AAny.done (by kernel_rfl) ?_
    simp -dsimp -implicitDefEqProofs (disch := omega) [go_sem, -List.getD_eq_getElem?_getD, ite_yes, ht, hb, lf, gs, bz, ac, hq, n1, n2, n3, n4, n5, bs, f1, f2, f3, f4]
    refine ⟨by omega, fin_setA (b := ⟨(cutB l i).flatMap blE ++ [.int .i64 0, .int .i64 0, .int .i64 0, .int .i64 0], true, 62, 4⟩) [] ht (L2.refl fun x hx => WM_flat (List.all_eq_true.1 fl x hx)) rfl (by simp) (by simp -dsimp -implicitDefEqProofs (disch := omega) [go_sem, -List.getD_eq_getElem?_getD, ite_yes, ht])⟩
def isIdB (id : Int) (b : Bl) : Bool := decide (b.1 = id)
def refOk (l : List Bl) (r : Int) : Bool := goodB l && decide (0 ≤ r)
theorem refF_A (r : Bl) (id : Int) (H : Heap) (u : Nat) (hl : u < H.length) (hu : aCells H ⟨u, 0, none⟩ 1 = some [.int .i64 id]) : AFunC Try.prog 40 [.agg #[.int .i64 r.1, .int .i64 r.2.1, .int .i64 r.2.2.1, .int .i64 r.2.2.2], .pointer (some ⟨u, 0, none⟩)] H (.bool (isIdB id r)) H := by
  refine AFunC.of_body Try.func40 (by kernel_rfl) rfl (by kernel_rfl) (by simp [Try.ntmps40]) ?_
  simp -dsimp -implicitDefEqProofs (disch := omega) [go_sem, -List.getD_eq_getElem?_getD, ite_yes, hl, hu]
  exact fin_flat rfl rfl
theorem iRef_bad (l : List Bl) (id r : Int) (hr : Found (0, 0, 0, 0) (isIdB id) l r) (hl : l.length ≤ 1048577) (hg : refOk l r = false) (c : Nat) (H : Heap) (t : Nat) (hS : Sl blE H t l) :
    AFunC Try.prog 9 [.slice (some ⟨t, 0, none⟩) l.length c, .int .i64 id] H (.tuple #[.slice none 0 0, .int .i64 0, .bool false]) H := by
  refine AFunC.of_body Try.func9 (by kernel_rfl) rfl (by kernel_rfl) (by simp [Try.ntmps9]) ?_
  have ht := hS.lt
  simp -dsimp -implicitDefEqProofs (disch := omega) [go_sem, -List.getD_eq_getElem?_getD, ite_yes, ht]
  refine ACall.of (indexFuncBl_A l (isIdB id) 40 #[.pointer (some ⟨H.length, 0, none⟩)] r hr hl c _ t hS.app (by simp [L2, WMP, sg]) (fun b => refF_A b id _ _ (by simp) (by rw [aCells_at0]; rfl))) ?_
  simp -dsimp -implicitDefEqProofs (disch := omega) [go_sem, -List.getD_eq_getElem?_getD, ite_yes, ht]
  refine ACall.of (iValidBills_A l hl c _ t hS.app) ?_
  cases g1 : goodB l
  · simp -dsimp -implicitDefEqProofs (disch := omega) [go_sem, -List.getD_eq_getElem?_getD, ite_yes, ht]
    exact fin_flat rfl rfl
  · have h0 : r < 0 := by
      simp only [refOk, g1, Bool.true_and, decide_eq_false_iff_not] at hg
      omega
    simp -dsimp -implicitDefEqProofs (disch := omega) [go_sem, -List.getD_eq_getElem?_getD, ite_yes, ht, h0]
    exact fin_flat rfl rfl
theorem iRef_good (l : List Bl) (id : Int) (i : Nat) (hr : Found (0, 0, 0, 0) (isIdB id) l (i : Int)) (hi : i < l.length) (hl : l.length ≤ 1048577) (hg : goodB l = true) (c : Nat) (H : Heap) (t : Nat) (hS : Sl blE H t l) :
    AFunC Try.prog 9 [.slice (some ⟨t, 0, none⟩) l.length c, .int .i64 id] H (.tuple #[.slice (some ⟨H.length, 0, none⟩) (cutB l i).length (cutB l i).length, .int .i64 (l.getD i (0, 0, 0, 0)).2.2.2, .bool true]) (H ++ [some ⟨(cutB l i).flatMap blE, true, 62, 4⟩]) := by
  refine AFunC.of_body Try.func9 (by kernel_rfl) rfl (by kernel_rfl) (by simp [Try.ntmps9]) ?_
  have ht := hS.lt
  have l12 := (goodB_at hg).1
  have al := hS.all (s := 4) (fun _ => rfl)
  have lf := blE_length l
  have hc := cutB_length hi
  have c3 := hS.cell (s := 4) (fun _ => rfl) (0, 0, 0, 0) i 3 hi (by omega)
  simp only [blE] at c3
  simp -dsimp -implicitDefEqProofs (disch := omega) [go_sem, -List.getD_eq_getElem?_getD, ite_yes, ht]
  refine ACall.of (indexFuncBl_A l (isIdB id) 40 #[.pointer (some ⟨H.length, 0, none⟩)] i hr hl c _ t hS.app (by simp [L2, WMP, sg]) (fun b => refF_A b id _ _ (by simp) (by rw [aCells_at0]; rfl))) ?_
  simp -dsimp -implicitDefEqProofs (disch := omega) [go_sem, -List.getD_eq_getElem?_getD, ite_yes, ht]
  refine ACall.of (iValidBills_A l hl c _ t hS.app) ?_
  have h0 : ¬ (i : Int) < 0 := by omega
  have hii : (i : Int) < (l.length : Int) := by omega
  have ec : (cutB l i ++ [(0, 0, 0, 0)]).flatMap blE = (cutB l i).flatMap blE ++ [.int .i64 0, .int .i64 0, .int .i64 0, .int .i64 0] := by rw [List.flatMap_append]; rfl
  have et : List.take ((cutB l i).length * 4) ((cutB l i).flatMap blE ++ [Value.int .i64 0, .int .i64 0, .int .i64 0, .int .i64 0]) = (cutB l i).flatMap blE := by rw [← blE_length, List.take_left]
  rw [hc]
  simp -dsimp -implicitDefEqProofs (disch := omega) [go_sem, -List.getD_eq_getElem?_getD, ite_yes, ht, hg, h0]
  refine ADraw.any _ (by kernel_rfl) (SubH.refl) ?_
  refine AAny.takes (fuel := 6) (by kernel_rfl) (by kernel_rfl) [1, 3, 4, 5, 7, 8, 9, 10, 11] (by kernel_rfl) (by kernel_rfl) ?_
  simp -dsimp -implicitDefEqProofs (disch := omega) [go_sem, -List.getD_eq_getElem?_getD, ite_yes, ht, al, lf, c3, hi, hii]
  refine AAny.one 5 0 (by kernel_rfl) (by kernel_rfl) (by kernel_rfl) ?_
  simp -dsimp -implicitDefEqProofs (disch := omega) [go_sem, -List.getD_eq_getElem?_getD, ite_yes, ht, al, lf, c3, hi, hii]
  first | refine AAt.of (by first | exact SubH.refl | exact SubH.app | exact SubH.both (by simp [subL])) ?_ | (refine ⟨?_, AAt.of (by first | exact SubH.refl | exact SubH.app | exact SubH.both (by simp [subL])) ?_⟩; · omega)
  refine AAny.one 4 2 (by kernel_rfl) (by kernel_rfl) (by kernel_rfl) ?_
  simp -dsimp -implicitDefEqProofs (disch := omega) [go_sem, -List.getD_eq_getElem?_getD, ite_yes, ht, al, lf, c3, hi, hii]
  first | refine AAt.of (by first | exact SubH.refl | exact SubH.app | exact SubH.both (by simp [subL])) ?_ | (refine ⟨?_, AAt.of (by first | exact SubH.refl | exact SubH.app | exact SubH.both (by simp [subL])) ?_⟩; · omega)
  refine AAny.one 3 6 (by kernel_rfl) (by kernel_rfl) (by kernel_rfl) ?_
  simp -dsimp -implicitDefEqProofs (disch := omega) [go_sem, -List.getD_eq_getElem?_getD, ite_yes, ht, al, lf, c3, hi, hii]
  refine ACall.of (delete_A l i hi hl _ _ _ (by rw [Heap.get_len_add]; rfl)) ?_
  simp -dsimp -implicitDefEqProofs (disch := omega) [go_sem, -List.getD_eq_getElem?_getD, ite_yes, ht, al, lf, c3, hi, hii]
  first | refine AAt.of (by first | exact SubH.refl | exact SubH.app | exact SubH.both (by simp [subL])) ?_ | (refine ⟨?_, AAt.of (by first | exact SubH.refl | exact SubH.app | exact SubH.both (by simp [subL])) ?_⟩; · omega)
  refine AAny.takes (fuel := 0) (by kernel_rfl) (by kernel_rfl) [12, 13, 14] (by kernel_rfl) (by kernel_rfl) ?_
  simp -dsimp -implicitDefEqProofs (disch := omega) [go_sem, -List.getD_eq_getElem?_getD, ite_yes, ht, al, lf, c3, hi, hii]
  refine AAny.done (by kernel_rfl) ?_
  simp -dsimp -implicitDefEqProofs (disch := omega) [go_sem, -List.getD_eq_getElem?_getD, ite_yes, ht, al, lf, c3, hi, hii]
  refine fin_list [some 2] rfl ?_ (by simp -dsimp -implicitDefEqProofs (disch := omega) [go_sem, -List.getD_eq_getElem?_getD, ite_yes, ht])
  simp -dsimp -implicitDefEqProofs (disch := omega) [go_sem, -List.getD_eq_getElem?_getD, ite_yes]
  exact .inr (by rw [List.take_left]; exact L2.refl fun x hx => WM_flat (List.all_eq_true.1 (blE_flat (cutB l i)) x hx))
theorem sRef_bad (l : List Bl) (id r : Int) (hr : Found (0, 0, 0, 0) (isIdB id) l r) (hl : l.length ≤ 1048577) (hg : refOk l r = false) (c : Nat) (H : Heap) (t : Nat) (hS : Sl blE H t l) :
    AFunC Try.prog 7 [.slice (some ⟨t, 0, none⟩) l.length c, .int .i64 id] H (.tuple #[.slice (some ⟨H.length, 0, none⟩) 0 0, .int .i64 0, .bool false]) (H ++ [some ⟨[], true, 62, 4⟩]) := by
  refine AFunC.of_body Try.func7 (by kernel_rfl) rfl (by kernel_rfl) (by simp [Try.ntmps7]) ?_
  have ht := hS.lt
  have c0 := fun k hk => hS.cell (s := 4) (fun _ => rfl) (0, 0, 0, 0) k 0 hk (by omega)
  simp only [blE, Nat.add_zero] at c0
  simp -dsimp -implicitDefEqProofs (disch := omega) [go_sem, -List.getD_eq_getElem?_getD, ite_yes, ht]
  refine ACall.of (l20Good_A l hl c _ t hS) ?_
  cases g1 : goodB l
  · simp -dsimp -implicitDefEqProofs (disch := omega) [go_sem, -List.getD_eq_getElem?_getD, ite_yes, ht]
    refine fin_list [some 0] rfl ?_ (by simp -dsimp -implicitDefEqProofs (disch := omega) [go_sem, -List.getD_eq_getElem?_getD, ite_yes, ht])
    simp -dsimp -implicitDefEqProofs (disch := omega) [go_sem, -List.getD_eq_getElem?_getD, ite_yes]
    exact .inl ⟨rfl, rfl⟩
  simp -dsimp -implicitDefEqProofs (disch := omega) [go_sem, -List.getD_eq_getElem?_getD, ite_yes, ht]
  refine ALoop.intro (ι := Nat) (fun k => k ≤ l.length ∧ findTo (0, 0, 0, 0) (isIdB id) l k) (fun k => [(0, .slice (some ⟨t, 0, none⟩) l.length c), (1, .int .i64 id), (7, .int .i64 k)]) (fun _ => H) (fun k => l.length - k) 0 ⟨by omega, fun i hi => by omega⟩ ?_ ?_
  · exact weakS_same (by simp -dsimp -implicitDefEqProofs (disch := omega) [go_sem, -List.getD_eq_getElem?_getD, ite_yes, ht])
  · rintro k ⟨hk, hf⟩
    by_cases hlt : k < l.length
    · have ck := c0 k hlt
      simp -dsimp -implicitDefEqProofs (disch := omega) [go_sem, -List.getD_eq_getElem?_getD, ite_yes, hlt, ck, ht]
      by_cases he : (l.getD k (0, 0, 0, 0)).1 = id
      · exfalso
        have := found_uniq hr (.yes k hlt (decide_eq_true he) hf)
        rw [this] at hg
        simp [refOk, g1] at hg
      · have hn : isIdB id (l.getD k (0, 0, 0, 0)) = false := by simp only [isIdB, he, decide_false]
        simp -dsimp -implicitDefEqProofs (disch := omega) [go_sem, -List.getD_eq_getElem?_getD, ite_yes, he]
        exact LoopEnd.of (k + 1) ⟨by omega, hf.next hn⟩ (by omega) (weakS_same (by simp -dsimp -implicitDefEqProofs (disch := omega) [go_sem, -List.getD_eq_getElem?_getD, ite_yes, ht]))
    · simp -dsimp -implicitDefEqProofs (disch := omega) [go_sem, -List.getD_eq_getElem?_getD, ite_yes, hlt]
      refine fin_list [some 0] rfl ?_ (by simp -dsimp -implicitDefEqProofs (disch := omega) [go_sem, -List.getD_eq_getElem?_getD, ite_yes, ht])
      simp -dsimp -implicitDefEqProofs (disch := omega) [go_sem, -List.getD_eq_getElem?_getD, ite_yes]
      exact .inl ⟨rfl, rfl⟩
theorem sRef_good (l : List Bl) (id : Int) (i : Nat) (hr : Found (0, 0, 0, 0) (isIdB id) l (i : Int)) (hi : i < l.length) (hl : l.length ≤ 1048577) (hg : goodB l = true) (c : Nat) (H : Heap) (t : Nat) (hS : Sl blE H t l) (hz : blkSz H t = some 4) :
    AFunC Try.prog 7 [.slice (some ⟨t, 0, none⟩) l.length c, .int .i64 id] H (.tuple #[.slice (some ⟨H.length, 0, none⟩) (cutB l i).length (cutB l i).length, .int .i64 (l.getD i (0, 0, 0, 0)).2.2.2, .bool true]) (H ++ [some ⟨(cutB l i).flatMap blE, true, 62, 4⟩]) := by
  refine AFunC.of_body Try.func7 (by kernel_rfl) rfl (by kernel_rfl) (by simp [Try.ntmps7]) ?_
  have ht := hS.lt
  have l12 := (goodB_at hg).1
  have c0 := fun k hk => hS.cell (s := 4) (fun _ => rfl) (0, 0, 0, 0) k 0 hk (by omega)
  simp only [blE, Nat.add_zero] at c0
  simp -dsimp -implicitDefEqProofs (disch := omega) [go_sem, -List.getD_eq_getElem?_getD, ite_yes, ht]
  refine ACall.of (l20Good_A l hl c _ t hS) ?_
  simp -dsimp -implicitDefEqProofs (disch := omega) [go_sem, -List.getD_eq_getElem?_getD, ite_yes, ht, hg]
  refine ALoop.intro (ι := Nat) (fun k => k ≤ l.length ∧ findTo (0, 0, 0, 0) (isIdB id) l k) (fun k => [(0, .slice (some ⟨t, 0, none⟩) l.length c), (1, .int .i64 id), (7, .int .i64 k)]) (fun _ => H) (fun k => l.length - k) 0 ⟨by omega, fun i hi => by omega⟩ ?_ ?_
  · exact weakS_same (by simp -dsimp -implicitDefEqProofs (disch := omega) [go_sem, -List.getD_eq_getElem?_getD, ite_yes, ht])
  · rintro k ⟨hk, hf⟩
    by_cases hlt : k < l.length
    · have ck := c0 k hlt
      simp -dsimp -implicitDefEqProofs (disch := omega) [go_sem, -List.getD_eq_getElem?_getD, ite_yes, hlt, ck, ht]
      by_cases he : (l.getD k (0, 0, 0, 0)).1 = id
      · have := found_uniq hr (.yes k hlt (decide_eq_true he) hf)
        obtain rfl : k = i := by omega
        have hc := cutB_length hi
        have c3 := hS.cell (s := 4) (fun _ => rfl) (0, 0, 0, 0) k 3 hi (by omega)
        simp only [blE] at c3
        have lf := blE_length l
        have a1 := hS.cut (s := 4) (fun _ => rfl) 0 k (by omega)
        have a2 := hS.cut (s := 4) (fun _ => rfl) (k + 1) (l.length - (k + 1)) (by omega)
        rw [List.drop_zero, Nat.zero_mul] at a1
        rw [List.take_of_length_le (by rw [List.length_drop]; omega)] at a2
        have b1 : ((l.take k).flatMap blE).length = k * 4 := by rw [blE_length, List.length_take, Nat.min_eq_left (by omega)]
        have b2 : (l.take k).flatMap blE ++ (l.drop (k + 1)).flatMap blE = (cutB l k).flatMap blE := by rw [cutB, List.flatMap_append]
        have b3 : k + (l.length - (k + 1)) = l.length - 1 := by omega
        rw [hc]
        simp -dsimp -implicitDefEqProofs (disch := omega) [go_sem, -List.getD_eq_getElem?_getD, ite_yes, he, ht]
        refine ADraw.any _ (by kernel_rfl) (SubH.refl) ?_
        refine AAny.takes (fuel := 6) (by kernel_rfl) (by kernel_rfl) [1, 2, 3, 5, 6, 7, 8, 10, 11, 12, 13, 14] (by kernel_rfl) (by kernel_rfl) ?_
        simp -dsimp -implicitDefEqProofs (disch := omega) [go_sem, -List.getD_eq_getElem?_getD, ite_yes, ht, a1, a2, b1, b2, b3, c3, hz, hlt]
        refine AAny.one 5 0 (by kernel_rfl) (by kernel_rfl) (by kernel_rfl) ?_
        simp -dsimp -implicitDefEqProofs (disch := omega) [go_sem, -List.getD_eq_getElem?_getD, ite_yes, ht, a1, a2, b1, b2, b3, c3, hz, hlt]
        first | refine AAt.of (by first | exact SubH.refl | exact SubH.app | exact SubH.both (by simp [subL])) ?_ | (refine ⟨?_, AAt.of (by first | exact SubH.refl | exact SubH.app | exact SubH.both (by simp [subL])) ?_⟩; · omega)
        refine AAny.one 4 4 (by kernel_rfl) (by kernel_rfl) (by kernel_rfl) ?_
        simp -dsimp -implicitDefEqProofs (disch := omega) [go_sem, -List.getD_eq_getElem?_getD, ite_yes, ht, a1, a2, b1, b2, b3, c3, hz, hlt]
        first | refine AAt.of (by first | exact SubH.refl | exact SubH.app | exact SubH.both (by simp [subL])) ?_ | (refine ⟨?_, AAt.of (by first | exact SubH.refl | exact SubH.app | exact SubH.both (by simp [subL])) ?_⟩; · omega)
        refine AAny.one 3 9 (by kernel_rfl) (by kernel_rfl) (by kernel_rfl) ?_
        simp -dsimp -implicitDefEqProofs (disch := omega) [go_sem, -List.getD_eq_getElem?_getD, ite_yes, ht, a1, a2, b1, b2, b3, c3, hz, hlt]
        first | refine AAt.of (by first | exact SubH.refl | exact SubH.app | exact SubH.both (by simp [subL])) ?_ | (refine ⟨?_, AAt.of (by first | exact SubH.refl | exact SubH.app | exact SubH.both (by simp [subL])) ?_⟩; · omega)
        refine AAny.takes (fuel := 0) (by kernel_rfl) (by kernel_rfl) [15, 16, 17] (by kernel_rfl) (by kernel_rfl) ?_
        simp -dsimp -implicitDefEqProofs (disch := omega) [go_sem, -List.getD_eq_getElem?_getD, ite_yes, ht, a1, a2, b1, b2, b3, c3, hz, hlt]
        refine AAny.done (by kernel_rfl) ?_
        simp -dsimp -implicitDefEqProofs (disch := omega) [go_sem, -List.getD_eq_getElem?_getD, ite_yes, ht, a1, a2, b1, b2, b3, c3, hz, hlt]
        refine fin_list [some 2] rfl ?_ (by simp -dsimp -implicitDefEqProofs (disch := omega) [go_sem, -List.getD_eq_getElem?_getD, ite_yes, ht, b3])
        simp -dsimp -implicitDefEqProofs (disch := omega) [go_sem, -List.getD_eq_getElem?_getD, ite_yes]
        exact .inl ⟨rfl, blE_flat _⟩
      · have hn : isIdB id (l.getD k (0, 0, 0, 0)) = false := by simp only [isIdB, he, decide_false]
        simp -dsimp -implicitDefEqProofs (disch := omega) [go_sem, -List.getD_eq_getElem?_getD, ite_yes, he]
        exact LoopEnd.of (k + 1) ⟨by omega, hf.next hn⟩ (by omega) (weakS_same (by simp -dsimp -implicitDefEqProofs (disch := omega) [go_sem, -List.getD_eq_getElem?_getD, ite_yes, ht]))
    · exfalso
      obtain rfl : k = l.length := by omega
      have := found_uniq hr (.no hf)
      omega
end Go.Proofs.Ytappbdfieccfeaa
