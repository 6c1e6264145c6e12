/- BestOrder and QuickestOrder: both sides. -/
import Derived.Test.YtaehphcaiabdmaaBestS
namespace Go.Proofs.Ytaehphcaiabdmaa
open Go.Am
set_option linter.unusedVariables false
set_option linter.unusedSimpArgs false
set_option maxRecDepth 100000
set_option maxHeartbeats 4000000

theorem bestOrder_A (n : Int) (ps : List Pp) (cp : Nat) (l : List Vl) (cv : Nat) (src : Int) (cu : List Int) (cw : Nat) (hq : askR n ps l src = true) (hcu : custOk n cu = true) (gch : Nat) (capc : Array Value) (ch : List Int → Bool) (Pre : Heap → Prop) (H : Heap) (tp tv tw : Nat) (hP : Sl ppE H tp ps) (hS : Sl vlE H tv l) (hC : Sl nmE H tw cu)
    (hcc : L2 (WMP (sg H.length []) H.length) capc.toList capc.toList) (hpre0 : ∀ L, Pre (H ++ L)) (hpre : ∀ a b K G, H.length ≤ a → H.length ≤ b → Pre K → Kp a b K G → Pre G)
    (hch : ∀ G, Pre G → ∀ (a : List Int) (u d : Nat), Sl nmE G u a → ordB l a = true → AFunC Try.prog gch (.slice (some ⟨u, 0, none⟩) a.length d :: capc.toList) G (.bool (ch a)) G) :
    AFunC Try.prog 58 [netV n tp ps.length cp, .slice (some ⟨tv, 0, none⟩) l.length cv, .int .i64 src, .slice (some ⟨tw, 0, none⟩) cu.length cw, .func (.func gch) #[] capc] H
      (.tuple #[.slice (some ⟨H.length, 0, none⟩) (visN (shutL l) ch (fun a => waitN n ps l src a cu) 7 [] ([], -1)).1.length 0, .int .i64 (visN (shutL l) ch (fun a => waitN n ps l src a cu) 7 [] ([], -1)).2])
      (H ++ [some ⟨(visN (shutL l) ch (fun a => waitN n ps l src a cu) 7 [] ([], -1)).1.flatMap nmE, true, 3, 1⟩]) := by
  refine AFunC.of_body Try.func58 (by kernel_rfl) rfl (by kernel_rfl) (by simp [Try.ntmps58]) ?_
  have htp := hP.lt
  have htv := hS.lt
  have htw := hC.lt
  obtain ⟨hgv, hN, hl10, hsrc, hs6⟩ := askR_at hq
  simp -dsimp -implicitDefEqProofs (disch := omega) [go_sem, -List.getD_eq_getElem?_getD, ite_yes, htp, htv, htw]
  refine ACall.of (shutIds_A l (by omega) cv _ tv hS.app) ?_
  simp -dsimp -implicitDefEqProofs (disch := omega) [go_sem, -List.getD_eq_getElem?_getD, ite_yes, htp, htv, htw]
  have V := fun K hE hC hu => visit_R n ps l src cu hq hcu ⟨H.length + 6, H.length + 10, H.length + 4, H.length, H.length + 1, H.length + 2, H.length + 3, H.length + 9, H.length + 8, H.length + 5, tp, tv, tw, cp, cv, cw, gch, capc⟩ (by
      refine ⟨by simp, ?_⟩
      simp only [List.mem_cons, List.not_mem_nil, or_false, forall_eq_or_imp, forall_eq]
      refine ⟨?_, ?_, ?_, ?_, ?_, ?_, ?_, ?_, ?_, ?_, ?_⟩ <;> constructor <;> omega) Pre (fun K G => hpre _ _ K G (by simp) (by simp)) ch hch H.length 7 [] ([], -1) 0 (H.length + 11) K (GoodA.nil _) (by simp; omega) hE hC hu (by simp) (by simp) (by omega)
  simp only [VT.caps] at V
  refine ACall.via (V _ ⟨by simp -dsimp -implicitDefEqProofs (disch := omega) [go_sem, -List.getD_eq_getElem?_getD, ite_yes], by simp -dsimp -implicitDefEqProofs (disch := omega) [go_sem, -List.getD_eq_getElem?_getD, ite_yes, VT.caps], by simp -dsimp -implicitDefEqProofs (disch := omega) [go_sem, -List.getD_eq_getElem?_getD, ite_yes], by simp -dsimp -implicitDefEqProofs (disch := omega) [go_sem, -List.getD_eq_getElem?_getD, ite_yes], by simp -dsimp -implicitDefEqProofs (disch := omega) [go_sem, -List.getD_eq_getElem?_getD, ite_yes], by simp -dsimp -implicitDefEqProofs (disch := omega) [go_sem, -List.getD_eq_getElem?_getD, ite_yes], by simp -dsimp -implicitDefEqProofs (disch := omega) [go_sem, -List.getD_eq_getElem?_getD, ite_yes], Sl.nth 5 rfl rfl, hP.app, hS.app, hC.app, by simp, by simp, by simp, by simp, by simp, by simp, by simp, by simp, by simp, hcc.mono fun x y => wmp_mono (by simp), hpre0 _⟩ ⟨(Heap.get_len_add _ _ 9).trans rfl, H.length + 7, 0, (Heap.get_len_add _ _ 8).trans rfl, (Heap.get_len_add _ _ 7).trans rfl, by simp, by simp, by omega⟩ ((Heap.get_len_add _ _ 11).trans rfl) (by simp)) ?_
  rintro v G ⟨rfl, hE, hC', hV, hKp⟩
  generalize visN (shutL l) ch (fun a => waitN n ps l src a cu) 7 [] ([], -1) = r at *
  have c8 := hC'.c8
  obtain ⟨g, cb, c9, hg, _, _, hgb⟩ := hC'.c9
  have l8 := hE.l8
  have l9 := hE.l9
  simp only at c8 c9 l8 l9
  have q8 : aCells G ⟨H.length + 9, 0, none⟩ 1 = some [.int .i64 r.2] := by rw [aCells_eq, c8]; rfl
  have q9 : aCells G ⟨H.length + 8, 0, none⟩ 1 = some [.slice (some ⟨g, 0, none⟩) r.1.length cb] := by rw [aCells_eq, c9]; rfl
  simp -dsimp -implicitDefEqProofs (disch := omega) [go_sem, -List.getD_eq_getElem?_getD, ite_yes]
  refine ADraw.quiet (by kernel_rfl) (by kernel_rfl) (by kernel_rfl) ?_
  simp -dsimp -implicitDefEqProofs (disch := omega) [go_sem, -List.getD_eq_getElem?_getD, ite_yes, q8, q9, l8, l9]
  exact fin_pick (fun t ht => (hKp.2 t (by simp; omega) (by show t ≠ H.length + 9; omega) (by show t ≠ H.length + 8; omega)).trans (Heap.get_append_left ht)) hg hgb (nmE_flat _)
theorem gtlN_snoc (ps : List Pp) (l : List Vl) (src : Int) (a : List Int) (x : Int) : gtlN ps l src (a ++ [x]) = (gtlN ps l src a && gtOf true ps l src a x) := by
  have e1 : ∀ i, i < a.length → gtlB ps l src (a ++ [x]) i = gtlB ps l src a i := fun i hi => by
    unfold gtlB
    rw [List.take_append_of_le_length (by omega), List.getD_eq_getElem?_getD, List.getElem?_append_left hi, ← List.getD_eq_getElem?_getD]
  have e2 : gtlB ps l src (a ++ [x]) a.length = gtOf true ps l src a x := by
    unfold gtlB gtOf
    rw [List.take_left, List.getD_eq_getElem?_getD, List.getElem?_append_right (Nat.le_refl _), Nat.sub_self]; rfl
  cases h1 : gtlN ps l src a
  · obtain ⟨i, hi, h2⟩ : ∃ i, i < a.length ∧ gtlB ps l src a i = false := by
      apply Classical.byContradiction
      intro hc
      have : gtlTo ps l src a a.length := fun i hi => by
        cases h : gtlB ps l src a i
        · exact absurd ⟨i, hi, h⟩ hc
        · rfl
      have h3 := of_decide_eq_false h1
      exact h3 this
    rw [Bool.false_and]
    exact gtlN_no (k := i) (by simp; omega) (by rw [e1 i hi]; exact h2)
  · have h2 := of_decide_eq_true h1
    rw [Bool.true_and]
    cases h3 : gtOf true ps l src a x
    · exact gtlN_no (k := a.length) (by simp) (by rw [e2]; exact h3)
    · refine decide_eq_true fun i hi => ?_
      rw [List.length_append, List.length_singleton] at hi
      rcases Nat.lt_or_ge i a.length with h | h
      · rw [e1 i h]; exact h2 i h
      · rw [show i = a.length by omega, e2]; exact h3
theorem waitTo_left (n : Int) (ps : List Pp) (l : List Vl) (src : Int) (a : List Int) (x : Int) (cu : List Int) : ∀ k, k ≤ a.length → waitTo n ps l src (a ++ [x]) cu k = waitTo n ps l src a cu k
  | 0, _ => rfl
  | k + 1, hk => by rw [waitTo, waitTo, waitTo_left n ps l src a x cu k (by omega), List.take_append_of_le_length (by omega)]
theorem waitN_snoc (n : Int) (ps : List Pp) (l : List Vl) (src : Int) (a : List Int) (x : Int) (cu : List Int) : waitN n ps l src (a ++ [x]) cu = waitN n ps l src a cu + stepN n ps l src a cu := by
  unfold waitN
  rw [List.length_append, List.length_singleton, waitTo, waitTo_left n ps l src a x cu _ (Nat.le_refl _), List.take_left]
/-- what is best -/
def bestR (n : Int) (ps : List Pp) (l : List Vl) (src : Int) (cu : List Int) (gt : Bool) : Bst := bestN (shutL l) (gtOf gt ps l src) (fun a => stepN n ps l src a cu) 7 []
theorem vis_bestR {n : Int} {ps : List Pp} {l : List Vl} {src : Int} {cu : List Int} (hq : askR n ps l src = true) (hcu : custOk n cu = true) (gt : Bool) (ch : List Int → Bool) (h0 : ch [] = true) (hch : ∀ a x, ch (a ++ [x]) = (ch a && gtOf gt ps l src a x)) :
    visN (shutL l) ch (fun a => waitN n ps l src a cu) 7 [] ([], -1) = bestR n ps l src cu gt := by
  obtain ⟨hgv, hN, hl10, hsrc, hs6⟩ := askR_at hq
  have hcr := (custOk_at hcu).2
  have hs := fun a => (stepN_rng hN.f_n (ps := ps) (l := l) (src := src) (ids := a) hcr).1
  rw [vis_best (wt := fun a => waitN n ps l src a cu) (g := gtOf gt ps l src) (stp := fun a => stepN n ps l src a cu) hch hs (fun a => (waitTo_rng hN.f_n hcr _).1) (fun a x => waitN_snoc n ps l src a x cu) 7 [] ([], -1) (GoodA.nil _) (by simp; omega) h0]
  show comb 0 (bestR n ps l src cu gt) ([], -1) = _
  by_cases h : (bestR n ps l src cu gt).2 < 0
  · rw [comb_neg h]; exact (bestN_neg hs _ _ h).symm
  · rw [comb_yes (by omega) (.inl (by simp)), Int.zero_add]
theorem bestTo_len {rec : List Int → Bst} {g : List Int → Int → Bool} {ids a : List Int} {B : Nat} (h : ∀ b, (rec b).1.length ≤ B) : ∀ k, (bestTo rec g ids a k).1.length ≤ B
  | 0 => by simp [bestTo]
  | k + 1 => by
    have ih := bestTo_len (g := g) (ids := ids) (a := a) h k
    rw [bestTo]
    split
    · exact ih
    · split
      · exact h _
      · exact ih
theorem bestN_len {ids : List Int} {g : List Int → Int → Bool} {stp : List Int → Int} : ∀ (f : Nat) (a : List Int), (bestN ids g stp f a).1.length ≤ ids.length
  | 0, a => by simp [bestN]
  | f + 1, a => by
    rw [bestN]
    split
    · rename_i h; simp only; omega
    · unfold bestEnd
      split
      · exact bestTo_len (bestN_len f) _
      · exact bestTo_len (rec := bestN ids g stp f) (bestN_len f) _
theorem bestR_small {n : Int} {ps : List Pp} {l : List Vl} {src : Int} (hq : askR n ps l src = true) (cu : List Int) (gt : Bool) : (bestR n ps l src cu gt).1.length ≤ 1048577 := by
  have := bestN_len (ids := shutL l) (g := gtOf gt ps l src) (stp := fun a => stepN n ps l src a cu) 7 []
  have := (askR_at hq).2.2.2.2
  unfold bestR
  omega
end Go.Proofs.Ytaehphcaiabdmaa
