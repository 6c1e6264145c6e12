/- impl.takeReading. -/
import Derived.Test.YtokafhinmakdnaaTakeI
namespace Go.Proofs.Ytokafhinmakdnaa
open Go.Am
set_option linter.unusedVariables false
set_option linter.unusedSimpArgs false
set_option maxRecDepth 100000
set_option maxHeartbeats 4000000
theorem al_take (o : List Al) (p : Nat) (z : List Value) (hp : p ≤ o.length) : (o.flatMap alE ++ z).take (p * 4) = (o.take p).flatMap alE ∧ ((o.flatMap alE ++ z).drop (p * 4)).take ((o.length - p) * 4) = (o.drop p).flatMap alE := by
  have tl : ((o.take p).flatMap alE).length = p * 4 := by rw [alE_length, List.length_take]; congr 1; omega
  have dl : ((o.drop p).flatMap alE).length = (o.length - p) * 4 := by rw [alE_length, List.length_drop]
  have e : o.flatMap alE = (o.take p).flatMap alE ++ (o.drop p).flatMap alE := by rw [← List.flatMap_append, List.take_append_drop]
  rw [e, List.append_assoc]
  constructor
  · rw [← tl, List.take_left]
  · rw [← tl, List.drop_left, ← dl, List.take_left]
theorem WL_pre {σ : Sig} {n : Nat} {xs' xs : List Value} (hf : xs'.all flat = true) (h : xs.take xs'.length = xs') : WL σ n xs' xs :=
  .inr (by rw [h]; exact L2.refl fun x hx => WM_flat (List.all_eq_true.1 hf x hx))
theorem WL_z {σ : Sig} {n : Nat} (l : List Al) (z : List Value) : WL σ n (l.flatMap alE) (l.flatMap alE ++ z) := WL_pre (alE_flat l) List.take_left
theorem WL_eq {σ : Sig} {n : Nat} {l : List Al} {xs : List Value} (h : l.flatMap alE = xs) : WL σ n (l.flatMap alE) xs := .inl ⟨h, by rw [← h]; exact alE_flat l⟩
theorem al_zf (o : List Al) : (o.flatMap alE ++ zAl).all flat = true := by rw [List.all_append, alE_flat]; rfl
theorem al_nf (o : List Al) : (o.flatMap alE ++ []).all flat = true := by rw [List.append_nil, alE_flat]
theorem rule_ok {rs : List Ar} (h : goodR rs = true) {k : Nat} (hk : k < rs.length) : ruleOk (rs.getD k rD) := of_decide_eq_true (asc_at h k hk).1
theorem al_kind (l : List Al) {p : Nat} (hp : p < l.length) : List.take 1 (List.drop (p * 4 + 1) (l.flatMap alE)) = [.int .i64 (l.getD p aD).2.1] := by
  have h2 := congrArg (fun z => List.take 1 (List.drop 1 z)) (flatMap_cells alE 4 (fun _ => rfl) aD l p hp)
  simp only [List.drop_take, List.drop_drop, List.take_take] at h2
  exact h2
theorem al_node (l : List Al) (z : List Value) {p : Nat} (hp : p < l.length) : List.take 1 (List.drop (p * 4) (l.flatMap alE ++ z)) = [.int .i64 (l.getD p aD).1] := by
  have h2 := congrArg (fun z => List.take 1 z) (flatMap_cells alE 4 (fun _ => rfl) aD l p hp)
  simp only [List.take_take] at h2
  have hl := alE_length l
  rw [List.drop_append_of_le_length (by omega), List.take_append_of_le_length (by rw [List.length_drop]; omega)]
  exact h2
theorem offL_has {l : List Al} {node : Int} (h : hasN l node = true) : offL l node = l.take (lowN node l) ++ l.drop (lowN node l + 1) := by
  unfold offL nextN; rw [if_pos h]
theorem offL_no {l : List Al} {node : Int} (h : ¬ hasN l node = true) : offL l node = l := by
  unfold offL nextN; rw [if_neg h, Nat.add_zero, List.take_append_drop]
theorem off_len {l : List Al} {node : Int} (h : hasN l node = true) : l.length - 1 = (offL l node).length := by
  have := (of_decide_eq_true h).1
  rw [offL_length]; unfold nextN; rw [if_pos h]; omega
def bxR (r : Rg) : List Value := [.int .i64 r.1, .int .i64 r.2.1, .int .i64 r.2.2]
theorem iTake_A (rs : List Ar) (l : List Al) (hour node value : Int) (hrl : rs.length ≤ 1048577) (hg : goodR rs = true) (ho : Ord l) (hl8 : l.length ≤ 8) (c0 c1 : Nat) (H : Heap) (t0 t1 : Nat) (hR : Sl arE H t0 rs) (hS : Sl alE H t1 l) :
    AFunC Try.prog 46 [.slice (some ⟨t0, 0, none⟩) rs.length c0, .slice (some ⟨t1, 0, none⟩) l.length c1, .agg #[.int .i64 hour, .int .i64 node, .int .i64 value]] H
      (.slice (some ⟨H.length, 0, none⟩) (takeL rs l (hour, node, value)).length (takeL rs l (hour, node, value)).length) (H ++ [some ⟨(takeL rs l (hour, node, value)).flatMap alE, true, 74, 4⟩]) := by
  refine AFunC.of_body Try.func46 (by kernel_rfl) rfl (by kernel_rfl) (by simp [Try.ntmps46]) ?_
  have ht0 := hR.lt
  have ht1 := hS.lt
  have al := hS.all (s := 4) (fun _ => rfl)
  have lf := alE_length l
  have cs := fun k hk => hR.cells (s := 4) (fun _ => rfl) rD k hk
  simp only [arE] at cs
  have rf := ruleI_found rs node
  have rl := ruleI_lt rs node
  have fl := found_low ho node
  simp -dsimp -implicitDefEqProofs (disch := omega) [go_sem, -List.getD_eq_getElem?_getD, ite_yes, ht0, ht1, al, lf]
  refine ⟨by omega, ?_⟩
  refine ACall.of (indexFuncAr_A rs (atRule node) 76 #[.pointer (some ⟨H.length, 0, none⟩)] _ rf hrl c0 _ t0 hR.app (by simp [L2, WMP, sg]) (fun b => takeF1_A b node _ _ (by rw [aCells_eq, Heap.get_append_zero]; rfl))) ?_
  by_cases hneg : ruleI rs node < 0
  · have tk : takeL rs l (hour, node, value) = l := by unfold takeL; rw [if_pos hneg]
    rw [tk]
    simp -dsimp -implicitDefEqProofs (disch := omega) [go_sem, -List.getD_eq_getElem?_getD, ite_yes, hneg]
    refine fin_list [some 2] rfl ?_ (by simp -dsimp -implicitDefEqProofs (disch := omega) [go_sem, -List.getD_eq_getElem?_getD, ite_yes])
    simp -dsimp -implicitDefEqProofs (disch := omega) [go_sem, -List.getD_eq_getElem?_getD, ite_yes]
    exact .inl ⟨rfl, alE_flat _⟩
  obtain ⟨kr, hkr⟩ : ∃ k : Nat, ruleI rs node = (k : Int) := ⟨(ruleI rs node).toNat, by omega⟩
  have hkr2 : kr < rs.length := by omega
  have hkri : (kr : Int) < (rs.length : Int) := by omega
  have hkn : ¬ (kr : Int) < 0 := by omega
  have tk : takeL rs l (hour, node, value) = take1 (rs.getD kr rD) l (hour, node, value) := by unfold takeL; rw [if_neg hneg, hkr]; rfl
  have csr := cs kr hkr2
  have hok := rule_ok hg hkr2
  rw [hkr]
  clear rf rl cs hneg
  generalize rs.getD kr rD = rule at *
  have old := oldN_rng ho node
  have olt := fun k (hk : k < lowN node l) => offL_lt l node hk
  have oat := offL_at ho node
  have oll := offL_length l node
  have ple := lowN_le node l
  have ofl := alE_length (offL l node)
  simp -dsimp -implicitDefEqProofs (disch := omega) [go_sem, -List.getD_eq_getElem?_getD, ite_yes, hkn]
  refine ACall.of (alarmIndex_A l node _ fl (by omega) _ _ _ (Sl.nth 2 rfl rfl)) ?_
  by_cases hh : hasN l node = true
  · have hp := (of_decide_eq_true hh).1
    have hpi : (lowN node l : Int) < (l.length : Int) := by omega
    have hkd := al_kind l hp
    have e0 : oldN l node = (l.getD (lowN node l) aD).2.1 := by unfold oldN; rw [if_pos hh]
    have ofh := offL_has hh
    have oln := off_len hh
    have hno := fun j (h1 : lowN node l < j) (h2 : j < l.length) => (show atNode node (l.getD j aD) = false from decide_eq_false (by have := drop_gt ho node (k := j) (by unfold nextN; rw [if_pos hh]; omega) h2; omega))
    have hp4 : lowN node l * 4 + 1 + 1 ≤ l.length * 4 := by omega
    have same := take1_same (rule := rule) (r := (hour, node, value)) ho
    have off := take1_off (rule := rule) (l := l) (r := (hour, node, value))
    have nw := take1_new (rule := rule) (l := l) (r := (hour, node, value))
    simp only at same off nw
    rw [if_pos hh] at fl ⊢
    rw [← e0] at hkd
    have old1 := old.2.2 hh
    obtain ⟨K, hK⟩ : ∃ K, K = kindN rule (oldN l node) value := ⟨_, rfl⟩
    have C := fun H' => kindAfter_A rule (oldN l node) value hok H'
    rw [← hK] at same off nw C
    clear e0
    generalize oldN l node = old0 at *
    generalize lowN node l = p at *
    simp -dsimp -implicitDefEqProofs (disch := omega) [go_sem, -List.getD_eq_getElem?_getD, ite_yes, hp, hpi, hp4, lf, hkd]
    refine ADraw.quiet (by kernel_rfl) (by kernel_rfl) (by kernel_rfl) ?_
    simp -dsimp -implicitDefEqProofs (disch := omega) [go_sem, -List.getD_eq_getElem?_getD, ite_yes, hkr2, hkri, csr]
    refine ACallQ.of (C _) rfl ?_
    by_cases hsame : K = old0
    · rw [tk, same hsame]
      simp -dsimp -implicitDefEqProofs (disch := omega) [go_sem, -List.getD_eq_getElem?_getD, ite_yes, hsame]
      refine fin_list [some 2] rfl ?_ (by simp -dsimp -implicitDefEqProofs (disch := omega) [go_sem, -List.getD_eq_getElem?_getD, ite_yes])
      simp -dsimp -implicitDefEqProofs (disch := omega) [go_sem, -List.getD_eq_getElem?_getD, ite_yes]
      exact .inl ⟨rfl, alE_flat _⟩
    simp -dsimp -implicitDefEqProofs (disch := omega) [go_sem, -List.getD_eq_getElem?_getD, ite_yes, hsame]
    refine ACall.of (deleteAl_yes l (atNode node) 79 #[.pointer (some ⟨H.length, 0, none⟩)] p hp fl hno (by omega) _ _ _ _ rfl (by simp [Heap.get_append_right, Heap.get]) (by simp [L2, WMP, sg]) (fun b => takeF2_A b node _ _ (by rw [aCells_eq, Heap.get_append_zero]; rfl)) (fun b x L => takeF2_A b node _ _ (by rw [List.set_append_right _ _ (by omega), Nat.add_sub_cancel_left, List.append_assoc, aCells_eq, Heap.get_append_zero]; rfl))) ?_
    rw [← ofh, oln]
    generalize offL l node = o at *
    by_cases hz : K = 0
    · rw [tk, off hz]
      simp -dsimp -implicitDefEqProofs (disch := omega) [go_sem, -List.getD_eq_getElem?_getD, ite_yes, hz]
      refine fin_list [some 2] rfl ?_ (by simp -dsimp -implicitDefEqProofs (disch := omega) [go_sem, -List.getD_eq_getElem?_getD, ite_yes])
      simp -dsimp -implicitDefEqProofs (disch := omega) [go_sem, -List.getD_eq_getElem?_getD, ite_yes]
      exact WL_z _ _
    have tke := nw hsame hz
    rw [← tk] at tke
    have tkl : (takeL rs l (hour, node, value)).length = o.length + 1 := by rw [tke]; simp only [List.length_append, List.length_cons, List.length_take, List.length_drop]; omega
    simp -dsimp -implicitDefEqProofs (disch := omega) [go_sem, -List.getD_eq_getElem?_getD, ite_yes, hz]
    have zf := al_zf o
    refine ALoop.intro (ι := Nat) (fun k => k ≤ p) (fun k => [(5, .pointer (some ⟨H.length, 0, none⟩)), (7, .slice (some ⟨H.length + 1, 0, none⟩) o.length o.length), (11, .int .i64 K), (12, .int .i64 k)])
      (fun k => H ++ [some ⟨[.int .i64 hour, .int .i64 node, .int .i64 value], true, 34, 1⟩, some ⟨o.flatMap alE ++ zAl, true, 74, 4⟩]) (fun k => p - k) 0 (by omega) ?_ ?_
    · refine weakS_mk [some 0, some 2] rfl ?_ (by simp -dsimp -implicitDefEqProofs (disch := omega) [go_sem, -List.getD_eq_getElem?_getD, ite_yes])
      simp -dsimp -implicitDefEqProofs (disch := omega) [go_sem, -List.getD_eq_getElem?_getD, ite_yes]
      exact ⟨.inl ⟨rfl, rfl⟩, .inl ⟨by simp [zAl], by first | exact zf | exact alE_flat o⟩⟩
    intro k hk
    by_cases hlt : k < p
    · have c1 := olt k hlt
      have hko : k < o.length := by omega
      have hkoi : (k : Int) < (o.length : Int) := by omega
      have hk4 : k * 4 + 1 ≤ (o.flatMap alE ++ zAl).length := by rw [List.length_append, ofl]; omega
      have nc := al_node o zAl hko
      generalize hM : o.flatMap alE ++ zAl = M at hk4 nc ⊢
      simp -dsimp -implicitDefEqProofs (disch := omega) [go_sem, -List.getD_eq_getElem?_getD, ite_yes, hko, hkoi]
      refine ADraw.quiet (by kernel_rfl) (by kernel_rfl) (by kernel_rfl) ?_
      simp -dsimp -implicitDefEqProofs (disch := omega) [go_sem, -List.getD_eq_getElem?_getD, ite_yes, hko, hkoi, hk4, nc, c1]
      refine LoopEnd.of (k + 1) (by omega) (by omega) (weakS_mk [some 0, some 1] rfl ?_ (by simp -dsimp -implicitDefEqProofs (disch := omega) [go_sem, -List.getD_eq_getElem?_getD, ite_yes]))
      simp -dsimp -implicitDefEqProofs (disch := omega) [go_sem, -List.getD_eq_getElem?_getD, ite_yes]
      exact ⟨.inl ⟨rfl, rfl⟩, .inl ⟨rfl, hM ▸ zf⟩⟩
    obtain rfl : k = p := by omega
    have fin := fun (X : List Value) (hX : X = (takeL rs l (hour, node, value)).flatMap alE ++ []) => hX
    by_cases hko : k < o.length
    · have hkoi : (k : Int) < (o.length : Int) := by omega
      have c1 := oat hko
      have hk4 : k * 4 + 1 ≤ (o.flatMap alE ++ zAl).length := by rw [List.length_append, ofl]; omega
      have nc := al_node o zAl hko
      obtain ⟨t1, t2⟩ := al_take o k zAl (by omega)
      have mf : (o.flatMap alE ++ zAl).all flat = true := zf
      have ml : o.length * 4 ≤ (o.flatMap alE ++ zAl).length := by rw [List.length_append, ofl]; omega
      generalize hM : o.flatMap alE ++ zAl = M at hk4 nc t1 t2 mf ml ⊢
      simp -dsimp -implicitDefEqProofs (disch := omega) [go_sem, -List.getD_eq_getElem?_getD, ite_yes, hko, hkoi]
      refine ADraw.quiet (by kernel_rfl) (by kernel_rfl) (by kernel_rfl) ?_
      simp -dsimp -implicitDefEqProofs (disch := omega) [go_sem, -List.getD_eq_getElem?_getD, ite_yes, hko, hkoi, hk4, nc, c1]
      refine ACall.of (insert_A (bx := M) (vx := [.int .i64 node, .int .i64 K, .int .i64 hour, .bool false]) (by omega) hko (by simp [Heap.get_append_right, Heap.get]) (by omega) mf (by simp [Heap.get_append_right, Heap.get]) rfl rfl (by omega)) ?_
      rw [t1, t2]
      simp -dsimp -implicitDefEqProofs (disch := omega) [go_sem, -List.getD_eq_getElem?_getD, ite_yes]
      refine fin_list [some 3] rfl ?_ (by simp -dsimp -implicitDefEqProofs (disch := omega) [go_sem, -List.getD_eq_getElem?_getD, ite_yes, tkl])
      simp -dsimp -implicitDefEqProofs (disch := omega) [go_sem, -List.getD_eq_getElem?_getD, ite_yes]
      exact WL_eq (by rw [tke]; simp [alE])
    · have hkoi : ¬ (k : Int) < (o.length : Int) := by omega
      obtain rfl : k = o.length := by omega
      have mf : (o.flatMap alE ++ zAl).all flat = true := zf
      have ml : (o.flatMap alE ++ zAl).length = (o.length + 1) * 4 := by rw [List.length_append, ofl]; simp [zAl]; try omega
      have t1 : (o.flatMap alE ++ zAl).take (o.length * 4) = o.flatMap alE := by rw [← ofl, List.take_left]
      generalize hM : o.flatMap alE ++ zAl = M at mf ml t1 ⊢
      simp -dsimp -implicitDefEqProofs (disch := omega) [go_sem, -List.getD_eq_getElem?_getD, ite_yes, hko, hkoi]
      refine ADraw.quiet (by kernel_rfl) (by kernel_rfl) (by kernel_rfl) ?_
      simp -dsimp -implicitDefEqProofs (disch := omega) [go_sem, -List.getD_eq_getElem?_getD, ite_yes, hko, hkoi]
      refine ACall.of (insEnd_room (bx := M) (vx := [.int .i64 node, .int .i64 K, .int .i64 hour, .bool false]) (by omega) (by simp [Heap.get_append_right, Heap.get]) ml mf (by simp [Heap.get_append_right, Heap.get]) rfl rfl (by omega)) ?_
      have hMM := hM; rw [t1]
      simp -dsimp -implicitDefEqProofs (disch := omega) [go_sem, -List.getD_eq_getElem?_getD, ite_yes]
      refine fin_list [some 1] rfl ?_ (by simp -dsimp -implicitDefEqProofs (disch := omega) [go_sem, -List.getD_eq_getElem?_getD, ite_yes, tkl])
      simp -dsimp -implicitDefEqProofs (disch := omega) [go_sem, -List.getD_eq_getElem?_getD, ite_yes]
      exact WL_eq (by rw [tke]; simp [alE, hMM])
  · have same := take1_same (rule := rule) (r := (hour, node, value)) ho
    have nw := take1_new (rule := rule) (l := l) (r := (hour, node, value))
    simp only at same nw
    have e0 : oldN l node = 0 := by unfold oldN; rw [if_neg hh]
    have ofn := offL_no hh
    rw [if_neg hh] at fl ⊢
    have C := fun H' => kindAfter_A rule 0 value hok H'
    rw [e0] at same nw
    obtain ⟨K, hK⟩ : ∃ K, K = kindN rule 0 value := ⟨_, rfl⟩
    rw [← hK] at same nw C
    rw [ofn] at nw olt oat oll ofl
    clear e0 old
    generalize lowN node l = p at *
    simp -dsimp -implicitDefEqProofs (disch := omega) [go_sem, -List.getD_eq_getElem?_getD, ite_yes]
    refine ADraw.quiet (by kernel_rfl) (by kernel_rfl) (by kernel_rfl) ?_
    simp -dsimp -implicitDefEqProofs (disch := omega) [go_sem, -List.getD_eq_getElem?_getD, ite_yes, hkr2, hkri, csr]
    refine ACallQ.of (C _) rfl ?_
    by_cases hsame : K = 0
    · rw [tk, same hsame]
      simp -dsimp -implicitDefEqProofs (disch := omega) [go_sem, -List.getD_eq_getElem?_getD, ite_yes, hsame]
      refine fin_list [some 2] rfl ?_ (by simp -dsimp -implicitDefEqProofs (disch := omega) [go_sem, -List.getD_eq_getElem?_getD, ite_yes])
      simp -dsimp -implicitDefEqProofs (disch := omega) [go_sem, -List.getD_eq_getElem?_getD, ite_yes]
      exact .inl ⟨rfl, alE_flat _⟩
    simp -dsimp -implicitDefEqProofs (disch := omega) [go_sem, -List.getD_eq_getElem?_getD, ite_yes, hsame]
    refine ACall.of (deleteAl_no l (atNode node) 79 #[.pointer (some ⟨H.length, 0, none⟩)] fl (by omega) _ _ _ (Sl.nth 2 rfl rfl) (by simp [L2, WMP, sg]) (fun b => takeF2_A b node _ _ (by rw [aCells_eq, Heap.get_append_zero]; rfl))) ?_
    have tke := nw hsame hsame
    rw [← tk] at tke
    have tkl : (takeL rs l (hour, node, value)).length = l.length + 1 := by rw [tke]; simp only [List.length_append, List.length_cons, List.length_take, List.length_drop]; omega
    clear lf al hS ofn ho fl
    generalize hol : l = o at *
    rw [← List.append_nil (o.flatMap alE)]
    simp -dsimp -implicitDefEqProofs (disch := omega) [go_sem, -List.getD_eq_getElem?_getD, ite_yes, hsame]
    have zf := al_nf o
    refine ALoop.intro (ι := Nat) (fun k => k ≤ p) (fun k => [(5, .pointer (some ⟨H.length, 0, none⟩)), (7, .slice (some ⟨H.length + 1, 0, none⟩) o.length o.length), (11, .int .i64 K), (12, .int .i64 k)])
      (fun k => H ++ [some ⟨[.int .i64 hour, .int .i64 node, .int .i64 value], true, 34, 1⟩, some ⟨o.flatMap alE ++ [], true, 74, 4⟩]) (fun k => p - k) 0 (by omega) ?_ ?_
    · refine weakS_mk [some 0, some 2] rfl ?_ (by simp -dsimp -implicitDefEqProofs (disch := omega) [go_sem, -List.getD_eq_getElem?_getD, ite_yes])
      simp -dsimp -implicitDefEqProofs (disch := omega) [go_sem, -List.getD_eq_getElem?_getD, ite_yes]
      exact ⟨.inl ⟨rfl, rfl⟩, .inl ⟨by simp [zAl], by first | exact zf | exact alE_flat o⟩⟩
    intro k hk
    by_cases hlt : k < p
    · have c1 := olt k hlt
      have hko : k < o.length := by omega
      have hkoi : (k : Int) < (o.length : Int) := by omega
      have hk4 : k * 4 + 1 ≤ (o.flatMap alE ++ []).length := by rw [List.length_append, ofl]; omega
      have nc := al_node o [] hko
      generalize hM : o.flatMap alE ++ [] = M at hk4 nc ⊢
      simp -dsimp -implicitDefEqProofs (disch := omega) [go_sem, -List.getD_eq_getElem?_getD, ite_yes, hko, hkoi]
      refine ADraw.quiet (by kernel_rfl) (by kernel_rfl) (by kernel_rfl) ?_
      simp -dsimp -implicitDefEqProofs (disch := omega) [go_sem, -List.getD_eq_getElem?_getD, ite_yes, hko, hkoi, hk4, nc, c1]
      refine LoopEnd.of (k + 1) (by omega) (by omega) (weakS_mk [some 0, some 1] rfl ?_ (by simp -dsimp -implicitDefEqProofs (disch := omega) [go_sem, -List.getD_eq_getElem?_getD, ite_yes]))
      simp -dsimp -implicitDefEqProofs (disch := omega) [go_sem, -List.getD_eq_getElem?_getD, ite_yes]
      exact ⟨.inl ⟨rfl, rfl⟩, .inl ⟨rfl, hM ▸ zf⟩⟩
    obtain rfl : k = p := by omega
    have fin := fun (X : List Value) (hX : X = (takeL rs o (hour, node, value)).flatMap alE ++ []) => hX
    by_cases hko : k < o.length
    · have hkoi : (k : Int) < (o.length : Int) := by omega
      have c1 := oat hko
      have hk4 : k * 4 + 1 ≤ (o.flatMap alE ++ []).length := by rw [List.length_append, ofl]; omega
      have nc := al_node o [] hko
      obtain ⟨t1, t2⟩ := al_take o k [] (by omega)
      have mf : (o.flatMap alE ++ []).all flat = true := zf
      have ml : o.length * 4 ≤ (o.flatMap alE ++ []).length := by rw [List.length_append, ofl]; omega
      generalize hM : o.flatMap alE ++ [] = M at hk4 nc t1 t2 mf ml ⊢
      simp -dsimp -implicitDefEqProofs (disch := omega) [go_sem, -List.getD_eq_getElem?_getD, ite_yes, hko, hkoi]
      refine ADraw.quiet (by kernel_rfl) (by kernel_rfl) (by kernel_rfl) ?_
      simp -dsimp -implicitDefEqProofs (disch := omega) [go_sem, -List.getD_eq_getElem?_getD, ite_yes, hko, hkoi, hk4, nc, c1]
      refine ACall.of (insert_A (bx := M) (vx := [.int .i64 node, .int .i64 K, .int .i64 hour, .bool false]) (by omega) hko (by simp [Heap.get_append_right, Heap.get]) (by omega) mf (by simp [Heap.get_append_right, Heap.get]) rfl rfl (by omega)) ?_
      rw [t1, t2]
      simp -dsimp -implicitDefEqProofs (disch := omega) [go_sem, -List.getD_eq_getElem?_getD, ite_yes]
      refine fin_list [some 3] rfl ?_ (by simp -dsimp -implicitDefEqProofs (disch := omega) [go_sem, -List.getD_eq_getElem?_getD, ite_yes, tkl])
      simp -dsimp -implicitDefEqProofs (disch := omega) [go_sem, -List.getD_eq_getElem?_getD, ite_yes]
      exact WL_eq (by rw [tke]; simp [alE])
    · have hkoi : ¬ (k : Int) < (o.length : Int) := by omega
      obtain rfl : k = o.length := by omega
      have mf : (o.flatMap alE ++ []).all flat = true := zf
      have ml : (o.flatMap alE ++ []).length = o.length * 4 := by rw [List.length_append, ofl]; simp [zAl]; try omega
      have t1 : (o.flatMap alE ++ []).take (o.length * 4) = o.flatMap alE := by rw [← ofl, List.take_left]
      generalize hM : o.flatMap alE ++ [] = M at mf ml t1 ⊢
      simp -dsimp -implicitDefEqProofs (disch := omega) [go_sem, -List.getD_eq_getElem?_getD, ite_yes, hko, hkoi]
      refine ADraw.quiet (by kernel_rfl) (by kernel_rfl) (by kernel_rfl) ?_
      simp -dsimp -implicitDefEqProofs (disch := omega) [go_sem, -List.getD_eq_getElem?_getD, ite_yes, hko, hkoi]
      refine ACall.of (insEnd_new (bx := M) (vx := [.int .i64 node, .int .i64 K, .int .i64 hour, .bool false]) (by omega) (by simp [Heap.get_append_right, Heap.get]) ml mf (by simp [Heap.get_append_right, Heap.get]) rfl rfl (by omega)) ?_
      have hMM : M = o.flatMap alE := by rw [← hM, List.append_nil]
      simp -dsimp -implicitDefEqProofs (disch := omega) [go_sem, -List.getD_eq_getElem?_getD, ite_yes]
      refine fin_list [some 3] rfl ?_ (by simp -dsimp -implicitDefEqProofs (disch := omega) [go_sem, -List.getD_eq_getElem?_getD, ite_yes, tkl])
      simp -dsimp -implicitDefEqProofs (disch := omega) [go_sem, -List.getD_eq_getElem?_getD, ite_yes]
      exact WL_eq (by rw [tke]; simp [alE, hMM])
end Go.Proofs.Ytokafhinmakdnaa
