/- slices.DeleteFunc at alarms, the closures of taking a reading, and slices.Insert at the end. -/
import Derived.Test.YtokafhinmakdnaaTakeP
import Derived.Test.YtokafhinmakdnaaInsA
namespace Go.Proofs.Ytokafhinmakdnaa
open Go.Am
set_option linter.unusedVariables false
set_option linter.unusedSimpArgs false
set_option maxRecDepth 100000
set_option maxHeartbeats 4000000
theorem indexFuncAr_A (l : List Ar) (p : Ar → Bool) (g : Nat) (cap : Array Value) (r : Int) (hr : Found rD p l r) (hl : l.length ≤ 1048577) (c : Nat) (H : Heap) (t : Nat) (hS : Sl arE H t l) (hc : L2 (WMP (sg H.length []) H.length) cap.toList cap.toList)
    (hp : ∀ b : Ar, AFunC Try.prog g (.agg #[.int .i64 b.1, .int .i64 b.2.1, .int .i64 b.2.2.1, .int .i64 b.2.2.2] :: cap.toList) H (.bool (p b)) H) :
    AFunC Try.prog 75 [.slice (some ⟨t, 0, none⟩) l.length c, .func (.func g) #[] cap] H (.int .i64 r) H := by
  refine AFunC.of_body Try.func75 (by kernel_rfl) rfl (by kernel_rfl) (by simp [Try.ntmps75]) ?_
  have ht := hS.lt
  have cs := fun k hk => hS.cells (s := 4) (fun _ => rfl) rD k hk
  simp only [arE] at cs
  simp -dsimp -implicitDefEqProofs (disch := omega) [go_sem, -List.getD_eq_getElem?_getD, ite_yes]
  refine ALoop.intro (ι := Nat) (fun k => k ≤ l.length ∧ findTo rD p l k) (fun k => [(0, .slice (some ⟨t, 0, none⟩) l.length c), (1, .func (.func g) #[] cap), (7, .int .i64 l.length), (8, .int .i64 k)]) (fun _ => H) (fun k => l.length - k) 0 ⟨by omega, fun i hi => by omega⟩ ?_ ?_
  · exact weakS_same (by simp -dsimp -implicitDefEqProofs (disch := omega) [go_sem, -List.getD_eq_getElem?_getD, ite_yes, ht]; simpa using hc)
  · rintro k ⟨hk, hf⟩
    by_cases hlt : k < l.length
    · simp -dsimp -implicitDefEqProofs (disch := omega) [go_sem, -List.getD_eq_getElem?_getD, ite_yes, hlt, cs]
      refine ACall.of (hp (l.getD k rD)) ?_
      simp -dsimp -implicitDefEqProofs (disch := omega) [go_sem, -List.getD_eq_getElem?_getD, ite_yes]
      refine AIf.of (fun h => ?_) (fun h => ?_)
      · simp -dsimp -implicitDefEqProofs (disch := omega) [go_sem, -List.getD_eq_getElem?_getD, ite_yes]
        have := found_uniq hr (.yes k hlt h hf)
        exact fin_flat0 rfl (by rw [this])
      · simp -dsimp -implicitDefEqProofs (disch := omega) [go_sem, -List.getD_eq_getElem?_getD, ite_yes]
        exact LoopEnd.of (k + 1) ⟨by omega, hf.next h⟩ (by omega) (weakS_same (by simp -dsimp -implicitDefEqProofs (disch := omega) [go_sem, -List.getD_eq_getElem?_getD, ite_yes, ht]; simpa using hc))
    · simp -dsimp -implicitDefEqProofs (disch := omega) [go_sem, -List.getD_eq_getElem?_getD, ite_yes, hlt]
      obtain rfl : k = l.length := by omega
      have := found_uniq hr (.no hf)
      exact fin_flat0 rfl (by rw [this])
theorem takeF1_A (r : Ar) (node : Int) (H : Heap) (t : Nat) (h : aCells H ⟨t, 1, none⟩ 1 = some [.int .i64 node]) : AFunC Try.prog 76 [.agg #[.int .i64 r.1, .int .i64 r.2.1, .int .i64 r.2.2.1, .int .i64 r.2.2.2], .pointer (some ⟨t, 0, none⟩)] H (.bool (atRule node r)) H := by
  refine AFunC.of_body Try.func76 (by kernel_rfl) rfl (by kernel_rfl) (by simp [Try.ntmps76]) ?_
  have ht : t < H.length := by
    unfold aCells at h
    rw [if_pos rfl] at h
    cases hb : H.get t with
    | none => simp only [hb] at h; cases h
    | some b => exact Heap.get_lt hb
  simp -dsimp -implicitDefEqProofs (disch := omega) [go_sem, -List.getD_eq_getElem?_getD, ite_yes, h, ht]
  exact fin_flat rfl rfl
theorem takeF2_A (r : Al) (node : Int) (H : Heap) (t : Nat) (h : aCells H ⟨t, 1, none⟩ 1 = some [.int .i64 node]) : AFunC Try.prog 79 [.agg #[.int .i64 r.1, .int .i64 r.2.1, .int .i64 r.2.2.1, .bool r.2.2.2], .pointer (some ⟨t, 0, none⟩)] H (.bool (atNode node r)) H := by
  refine AFunC.of_body Try.func79 (by kernel_rfl) rfl (by kernel_rfl) (by simp [Try.ntmps79]) ?_
  have ht : t < H.length := by
    unfold aCells at h
    rw [if_pos rfl] at h
    cases hb : H.get t with
    | none => simp only [hb] at h; cases h
    | some b => exact Heap.get_lt hb
  simp -dsimp -implicitDefEqProofs (disch := omega) [go_sem, -List.getD_eq_getElem?_getD, ite_yes, h, ht]
  exact fin_flat rfl rfl
theorem deleteAl_no (l : List Al) (p : Al → Bool) (g : Nat) (cap : Array Value) (hr : Found aD p l (-1)) (hl : l.length ≤ 1048577) (c : Nat) (H : Heap) (t : Nat) (hS : Sl alE H t l) (hc : L2 (WMP (sg H.length []) H.length) cap.toList cap.toList)
    (hp : ∀ b : Al, AFunC Try.prog g (.agg #[.int .i64 b.1, .int .i64 b.2.1, .int .i64 b.2.2.1, .bool b.2.2.2] :: cap.toList) H (.bool (p b)) H) :
    AFunC Try.prog 78 [.slice (some ⟨t, 0, none⟩) l.length c, .func (.func g) #[] cap] H (.slice (some ⟨t, 0, none⟩) l.length c) H := by
  refine AFunC.of_body Try.func78 (by kernel_rfl) rfl (by kernel_rfl) (by simp [Try.ntmps78]) ?_
  have ht := hS.lt
  simp -dsimp -implicitDefEqProofs (disch := omega) [go_sem, -List.getD_eq_getElem?_getD, ite_yes, ht]
  refine ACall.of (indexFuncAl_A l p g cap (-1) hr hl c _ t hS hc hp) ?_
  simp -dsimp -implicitDefEqProofs (disch := omega) [go_sem, -List.getD_eq_getElem?_getD, ite_yes, ht]
  have := fin_list (H := H) (L := []) (L' := []) [] rfl (v := .slice (some ⟨t, 0, none⟩) l.length c) (vf := .slice (some ⟨t, 0, none⟩) l.length c) trivial (by simp -dsimp -implicitDefEqProofs (disch := omega) [go_sem, -List.getD_eq_getElem?_getD, ite_yes, ht])
  simpa using this
/-- the list within the deletion -/
def delL (l : List Al) (i j : Nat) : List Al := (l.take i ++ (l.drop (i + 1)).take (j - 1 - i)) ++ l.drop (j - 1)
theorem delL_cell (l : List Al) {i j : Nat} (h1 : i < j) (h2 : j < l.length) : (delL l i j).getD j aD = l.getD j aD ∧ (delL l i j).length = l.length := by
  have hA : (l.take i ++ (l.drop (i + 1)).take (j - 1 - i)).length = j - 1 := by
    rw [List.length_append, List.length_take, List.length_take, List.length_drop]; omega
  unfold delL
  refine ⟨?_, by rw [List.length_append, hA, List.length_drop]; omega⟩
  rw [List.getD_eq_getElem?_getD, List.getElem?_append_right (by omega), hA, List.getElem?_drop, ← List.getD_eq_getElem?_getD]
  congr 1; omega
theorem delL_put (l : List Al) {i j : Nat} (h1 : i < j) (h2 : j < l.length) :
    ((delL l i j).flatMap alE).take ((j - 1) * 4) ++ (alE (l.getD j aD) ++ ((delL l i j).flatMap alE).drop ((j - 1) * 4 + 4)) = (delL l i (j + 1)).flatMap alE := by
  have hA : (l.take i ++ (l.drop (i + 1)).take (j - 1 - i)).length = j - 1 := by
    rw [List.length_append, List.length_take, List.length_take, List.length_drop]; omega
  have e1 : delL l i j = (l.take i ++ (l.drop (i + 1)).take (j - 1 - i)) ++ l.drop (j - 1) := rfl
  have hlen := (delL_cell l h1 h2).2
  rw [← set_flat_eq (f := alE) (s := 4) (l := delL l i j) (i := j - 1) (fun _ => rfl) (l.getD j aD) (by omega)]
  congr 1
  rw [e1, List.set_append_right _ _ (by omega), hA, Nat.sub_self, List.drop_eq_getElem_cons (show j - 1 < l.length by omega), List.set_cons_zero]
  unfold delL
  rw [show j + 1 - 1 = j by omega, show j - 1 + 1 = j by omega]
  have e2 : (l.drop (i + 1)).take (j - i) = (l.drop (i + 1)).take (j - 1 - i) ++ [l.getD j aD] := by
    have hlt : j - 1 - i < (l.drop (i + 1)).length := by rw [List.length_drop]; omega
    rw [show j - i = j - 1 - i + 1 by omega, List.take_succ_eq_append_getElem hlt]
    congr 2
    rw [List.getElem_drop, getD_el h2]
    congr 1; omega
  rw [e2]
  simp only [List.append_assoc, List.singleton_append]
theorem delL_start (l : List Al) {i : Nat} (h : i < l.length) : delL l i (i + 1) = l := by
  unfold delL
  rw [show i + 1 - 1 - i = 0 by omega, List.take_zero, List.append_nil, Nat.add_sub_cancel, List.take_append_drop]
def zAl : List Value := [.int .i64 0, .int .i64 0, .int .i64 0, .bool false]
theorem delL_end (l : List Al) {i : Nat} (h : i < l.length) : ((delL l i l.length).flatMap alE).take ((l.length - 1) * 4) = (l.take i ++ l.drop (i + 1)).flatMap alE ∧ ((delL l i l.length).flatMap alE).length = l.length * 4 := by
  have hA : (l.take i ++ (l.drop (i + 1)).take (l.length - 1 - i)).length = l.length - 1 := by
    rw [List.length_append, List.length_take, List.length_take, List.length_drop]; omega
  have e : (l.drop (i + 1)).take (l.length - 1 - i) = l.drop (i + 1) := List.take_of_length_le (by rw [List.length_drop]; omega)
  constructor
  · unfold delL
    rw [List.flatMap_append, List.take_append_of_le_length (by rw [alE_length, hA]; omega), List.take_of_length_le (by rw [alE_length, hA]; omega), e]
  · rw [alE_length]
    congr 1
    unfold delL
    rw [List.length_append, hA, List.length_drop]; omega
theorem deleteAl_yes (l : List Al) (p : Al → Bool) (g : Nat) (cap : Array Value) (i : Nat) (hi : i < l.length) (hr : Found aD p l i) (hno : ∀ j, i < j → j < l.length → p (l.getD j aD) = false) (hl : l.length ≤ 1048577) (c e : Nat) (H : Heap) (t : Nat)
    (he : e = 74) (hb : H.get t = some ⟨l.flatMap alE, true, e, 4⟩) (hc : L2 (WMP (sg H.length []) H.length) cap.toList cap.toList)
    (hp0 : ∀ b : Al, AFunC Try.prog g (.agg #[.int .i64 b.1, .int .i64 b.2.1, .int .i64 b.2.2.1, .bool b.2.2.2] :: cap.toList) H (.bool (p b)) H)
    (hp : ∀ (b : Al) (x : Option Blk) (L : Heap), AFunC Try.prog g (.agg #[.int .i64 b.1, .int .i64 b.2.1, .int .i64 b.2.2.1, .bool b.2.2.2] :: cap.toList) (H.set t x ++ L) (.bool (p b)) (H.set t x ++ L)) :
    AFunC Try.prog 78 [.slice (some ⟨t, 0, none⟩) l.length c, .func (.func g) #[] cap] H (.slice (some ⟨t, 0, none⟩) (l.length - 1) (l.length - 1)) (H.set t (some ⟨(l.take i ++ l.drop (i + 1)).flatMap alE ++ zAl, true, e, 4⟩)) := by
  refine AFunC.of_body Try.func78 (by kernel_rfl) rfl (by kernel_rfl) (by simp [Try.ntmps78]) ?_
  have ht := Heap.get_lt hb
  have gs := fun x => Heap.get_set_self (H := H) ht (x := x)
  have gL := fun (x : Option Blk) (L : Heap) => (Heap.get_append_left (H := H.set t x) (L := L) (t := t) (by simpa using ht)).trans (gs x)
  have bz := fun (xs : List Value) => show blkSz (H.set t (some ⟨xs, true, e, 4⟩)) t = some 4 by unfold blkSz; rw [gs]
  have si := fun (x : Option Blk) (L : Heap) (y : Option Blk) => set_into (H := H) (L := L) (x := x) ht (y := y)
  have hi1 : ¬ (i : Int) = -1 := by omega
  simp -dsimp -implicitDefEqProofs (disch := omega) [go_sem, -List.getD_eq_getElem?_getD, ite_yes, ht]
  refine ACall.of (indexFuncAl_A l p g cap i hr hl c _ t ⟨_, [], hb, (List.append_nil _).symm⟩ hc hp0) ?_
  simp -dsimp -implicitDefEqProofs (disch := omega) [go_sem, -List.getD_eq_getElem?_getD, ite_yes, ht, hi1]
  refine ALoop.intro (ι := Nat) (fun j => i < j ∧ j ≤ l.length) (fun j => [(0, .slice (some ⟨t, 0, none⟩) l.length c), (1, .func (.func g) #[] cap), (5, .int .i64 (j - 1 : Nat)), (6, .int .i64 j)])
    (fun j => H.set t (some ⟨(delL l i j).flatMap alE, true, e, 4⟩)) (fun j => l.length - j) (i + 1) (by omega) ?_ ?_
  · refine weakS_set ht (alE_flat _) rfl ?_ (by simp -dsimp -implicitDefEqProofs (disch := omega) [go_sem, -List.getD_eq_getElem?_getD, ite_yes, ht]; simpa using hc)
    rw [delL_start l hi]; exact (Heap.set_self hb).symm
  rintro j ⟨hj1, hj2⟩
  by_cases hlt : j < l.length
  · have hlti : (j : Int) < (l.length : Int) := by omega
    obtain ⟨d1, d2⟩ := delL_cell l hj1 hlt
    have hput := delL_put l hj1 hlt
    have fc := flatMap_cells alE 4 (fun _ => rfl) aD (delL l i j) j (by omega)
    have dl := alE_length (delL l i j)
    rw [d1] at fc
    rw [d2] at dl
    have hpj := hno j hj1 hlt
    generalize l.getD j aD = x at *
    simp only [alE] at fc hput
    have hj4 : j * 4 + 4 ≤ l.length * 4 := by omega
    have hjm : j - 1 < l.length := by omega
    have hj5 : (j - 1) * 4 + 4 ≤ l.length * 4 := by omega
    have ej : ((j - 1 : Nat) : Int) + 1 = (j : Int) := by omega
    obtain ⟨M, hM⟩ : ∃ M, (delL l i j).flatMap alE = M := ⟨_, rfl⟩
    rw [hM] at fc hput dl ⊢
    have ca : aCells (H.set t (some ⟨M, true, e, 4⟩)) ⟨t, j * 4, none⟩ 4 = some [.int .i64 x.1, .int .i64 x.2.1, .int .i64 x.2.2.1, .bool x.2.2.2] := by
      rw [aCells_eq, gs, aC1]
      simp only [dl]
      rw [if_pos (by omega), fc]
    simp -dsimp -implicitDefEqProofs (disch := omega) [go_sem, -List.getD_eq_getElem?_getD, ite_yes, ht, hlti, hlt, ca]
    refine ACall.of (hp x _ _) ?_
    rw [hpj]
    simp -dsimp -implicitDefEqProofs (disch := omega) [go_sem, -List.getD_eq_getElem?_getD, ite_yes, ht, hlti, hlt, gs, gL, si, fc, dl, hj4, hjm, hj5, hput, ej]
    exact LoopEnd.of (j + 1) (by omega) (by omega) (weakS_setA (b := ⟨(delL l i (j + 1)).flatMap alE, true, e, 4⟩) _ ht (L2.refl fun x hx => WM_flat (List.all_eq_true.1 (alE_flat _) x hx)) rfl (by rw [← hput]; rfl) (by simp -dsimp -implicitDefEqProofs (disch := omega) [go_sem, -List.getD_eq_getElem?_getD, ite_yes, ht]; simpa using hc))
  · have hlti : ¬ (j : Int) < (l.length : Int) := by omega
    obtain rfl : j = l.length := by omega
    obtain ⟨d1, d2⟩ := delL_end l hi
    obtain ⟨M, hM⟩ : ∃ M, (delL l i l.length).flatMap alE = M := ⟨_, rfl⟩
    rw [hM] at d1 d2 ⊢
    simp -dsimp -implicitDefEqProofs (disch := omega) [go_sem, -List.getD_eq_getElem?_getD, ite_yes, ht, hlti, gs, bz, d2]
    have e1 : l.length - (l.length - 1) = 1 := by omega
    have e2 : List.drop ((l.length - 1) * 4 + 1 * 4) M = [] := List.drop_of_length_le (by omega)
    have zf : ((l.take i ++ l.drop (i + 1)).flatMap alE ++ zAl).all flat = true := by rw [List.all_append, alE_flat]; rfl
    refine ⟨by omega, ?_⟩
    rw [e1, e2, d1, ← List.append_assoc, ← List.flatMap_append]
    exact fin_setA (b := ⟨(l.take i ++ l.drop (i + 1)).flatMap alE ++ zAl, true, e, 4⟩) [] ht (L2.refl fun x hx => WM_flat (List.all_eq_true.1 zf x hx)) (by simp) (by simp [zAl]) (by simp -dsimp -implicitDefEqProofs (disch := omega) [go_sem, -List.getD_eq_getElem?_getD, ite_yes, ht])
end Go.Proofs.Ytokafhinmakdnaa
