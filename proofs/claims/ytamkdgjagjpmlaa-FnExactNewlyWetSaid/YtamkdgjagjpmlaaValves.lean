/- Valves: what is valid, and where one is. -/
import Derived.Test.YtamkdgjagjpmlaaNetS
namespace Go.Proofs.Ytamkdgjagjpmlaa
open Go.Am
set_option linter.unusedVariables false
set_option linter.unusedSimpArgs false
set_option maxRecDepth 100000
set_option maxHeartbeats 2000000

theorem ix_cases {α : Type} (d : α) (p : α → Bool) (l : List α) : (ixOf p l = -1 ∧ ∀ i, i < l.length → p (l.getD i d) = false) ∨ ∃ q : Nat, ixOf p l = (q : Int) ∧ q < l.length ∧ p (l.getD q d) = true ∧ ∀ i, i < q → p (l.getD i d) = false := by
  have h := found_ix d p l
  generalize ixOf p l = r at *
  cases h with
  | yes i h1 h2 h3 => exact .inr ⟨i, rfl, h1, h2, h3⟩
  | no h => exact .inl ⟨rfl, h⟩
theorem getD_take' {α : Type} {l : List α} {i k : Nat} {d : α} (h : i < k) : (l.take k).getD i d = l.getD i d := by
  rw [List.getD_eq_getElem?_getD, List.getElem?_take_of_lt h, ← List.getD_eq_getElem?_getD]
/-- whether a pipe has a node as one of its ends -/
def onP (ps : List Pp) (id nd : Int) : Bool := decide (0 ≤ pipeIx ps id) && (decide ((ps.getD (pipeIx ps id).toNat pp0).2.1 = nd) || decide ((ps.getD (pipeIx ps id).toNat pp0).2.2.1 = nd))
def sameV (v x : Vl) : Bool := decide (x.2.1 = v.2.1) && decide (x.2.2.1 = v.2.2.1)
def twinV (l : List Vl) (i : Nat) : Bool := decide (0 ≤ ixOf (sameV (l.getD i vl0)) (l.take i))
def oneV (ps : List Pp) (l : List Vl) (i : Nat) : Bool := inB (l.getD i vl0).1 1 99 && (!(decide (0 < i) && decide ((l.getD i vl0).1 ≤ (l.getD (i - 1) vl0).1)) && (onP ps (l.getD i vl0).2.1 (l.getD i vl0).2.2.1 && !twinV l i))
def goodVTo (ps : List Pp) (l : List Vl) (k : Nat) : Prop := ∀ i, i < k → oneV ps l i = true
instance goodVTo_dec (ps : List Pp) (l : List Vl) (k : Nat) : Decidable (goodVTo ps l k) := by unfold goodVTo; infer_instance
def goodV (n : Int) (ps : List Pp) (l : List Vl) : Bool := goodN n ps && (decide (l.length ≤ 10) && decide (goodVTo ps l l.length))
theorem goodVTo.next {ps : List Pp} {l : List Vl} {k : Nat} (h : goodVTo ps l k) (h1 : oneV ps l k = true) : goodVTo ps l (k + 1) := by
  intro i hi
  rcases Nat.lt_or_ge i k with h' | h'
  · exact h i h'
  · obtain rfl : i = k := by omega
    exact h1
theorem goodV_no {n : Int} {ps : List Pp} {l : List Vl} {k : Nat} (hk : k < l.length) (h : oneV ps l k = false) : goodV n ps l = false := by
  unfold goodV
  rw [decide_eq_false (p := goodVTo ps l l.length) (fun h' => by have := h' k hk; rw [h] at this; cases this), Bool.and_false, Bool.and_false]
theorem goodV_end {n : Int} {ps : List Pp} {l : List Vl} (hn : goodN n ps = true) (hl : l.length ≤ 10) (h : goodVTo ps l l.length) : goodV n ps l = true := by
  unfold goodV
  rw [hn, decide_eq_true hl, decide_eq_true h]; rfl
theorem wl_vl {σ : Sig} {m : Nat} (v : Vl) : WL σ m [.int .i64 v.1, .int .i64 v.2.1, .int .i64 v.2.2.1, .bool v.2.2.2] [.int .i64 v.1, .int .i64 v.2.1, .int .i64 v.2.2.1, .bool v.2.2.2] := .inl ⟨rfl, rfl⟩

theorem indexFuncVl_A (l : List Vl) (p : Vl → Bool) (g : Nat) (cap : Array Value) (hl : l.length ≤ 1048577) (c : Nat) (H : Heap) (t : Nat) (hS : Sl vlE H t l) (hc : L2 (WMP (sg H.length []) H.length) cap.toList cap.toList)
    (hp : ∀ k, k < l.length → AFunC Try.prog g (.agg #[.int .i64 (l.getD k vl0).1, .int .i64 (l.getD k vl0).2.1, .int .i64 (l.getD k vl0).2.2.1, .bool (l.getD k vl0).2.2.2] :: cap.toList) H (.bool (p (l.getD k vl0))) H) :
    AFunC Try.prog 57 [.slice (some ⟨t, 0, none⟩) l.length c, .func (.func g) #[] cap] H (.int .i64 (ixOf p l)) H := by
  refine AFunC.of_body Try.func57 (by kernel_rfl) rfl (by kernel_rfl) (by simp [Try.ntmps57]) ?_
  have ht := hS.lt
  have cs := fun k hk => hS.cells (s := 4) (fun _ => rfl) vl0 k hk
  simp only [vlE] at cs
  have hr := found_ix vl0 p l
  simp -dsimp -implicitDefEqProofs (disch := omega) [go_sem, -List.getD_eq_getElem?_getD, ite_yes]
  refine ALoop.intro (ι := Nat) (fun k => k ≤ l.length ∧ findTo vl0 p l k) (fun k => [(0, .slice (some ⟨t, 0, none⟩) l.length c), (1, .func (.func g) #[] cap), (7, .int .i64 l.length), (8, .int .i64 k)]) (fun _ => H) (fun k => l.length - k) 0 ⟨by omega, fun i hi => by omega⟩ ?_ ?_
  · exact weakS_same (by simp -dsimp -implicitDefEqProofs (disch := omega) [go_sem, -List.getD_eq_getElem?_getD, ite_yes, ht]; simpa using hc)
  · rintro k ⟨hk, hf⟩
    by_cases hlt : k < l.length
    · simp -dsimp -implicitDefEqProofs (disch := omega) [go_sem, -List.getD_eq_getElem?_getD, ite_yes, hlt, cs]
      refine ACall.of (hp k hlt) ?_
      simp -dsimp -implicitDefEqProofs (disch := omega) [go_sem, -List.getD_eq_getElem?_getD, ite_yes]
      refine AIf.of (fun h => ?_) (fun h => ?_)
      · simp -dsimp -implicitDefEqProofs (disch := omega) [go_sem, -List.getD_eq_getElem?_getD, ite_yes]
        have := found_uniq hr (.yes k hlt h hf)
        exact fin_flat0 rfl (by rw [this])
      · simp -dsimp -implicitDefEqProofs (disch := omega) [go_sem, -List.getD_eq_getElem?_getD, ite_yes]
        exact LoopEnd.of (k + 1) ⟨by omega, hf.next h⟩ (by omega) (weakS_same (by simp -dsimp -implicitDefEqProofs (disch := omega) [go_sem, -List.getD_eq_getElem?_getD, ite_yes, ht]; simpa using hc))
    · simp -dsimp -implicitDefEqProofs (disch := omega) [go_sem, -List.getD_eq_getElem?_getD, ite_yes, hlt]
      obtain rfl : k = l.length := by omega
      have := found_uniq hr (.no hf)
      exact fin_flat0 rfl (by rw [this])
theorem containsFuncVl_A (l : List Vl) (p : Vl → Bool) (g : Nat) (cap : Array Value) (hl : l.length ≤ 1048577) (c : Nat) (H : Heap) (t : Nat) (hS : Sl vlE H t l) (hc : L2 (WMP (sg H.length []) H.length) cap.toList cap.toList)
    (hp : ∀ k, k < l.length → AFunC Try.prog g (.agg #[.int .i64 (l.getD k vl0).1, .int .i64 (l.getD k vl0).2.1, .int .i64 (l.getD k vl0).2.2.1, .bool (l.getD k vl0).2.2.2] :: cap.toList) H (.bool (p (l.getD k vl0))) H) :
    AFunC Try.prog 69 [.slice (some ⟨t, 0, none⟩) l.length c, .func (.func g) #[] cap] H (.bool (decide (0 ≤ ixOf p l))) H := by
  refine AFunC.of_body Try.func69 (by kernel_rfl) rfl (by kernel_rfl) (by simp [Try.ntmps69]) ?_
  simp -dsimp -implicitDefEqProofs (disch := omega) [go_sem, -List.getD_eq_getElem?_getD, ite_yes]
  refine ACall.of (indexFuncVl_A l p g cap hl c H t hS hc hp) ?_
  simp -dsimp -implicitDefEqProofs (disch := omega) [go_sem, -List.getD_eq_getElem?_getD, ite_yes]
  exact fin_flat0 rfl rfl
theorem validValves1_A (v x : Vl) (H : Heap) (u : Nat) (hl : u < H.length) (c1 : aCells H ⟨u, 1, none⟩ 1 = some [.int .i64 v.2.1]) (c2 : aCells H ⟨u, 2, none⟩ 1 = some [.int .i64 v.2.2.1]) :
    AFunC Try.prog 70 [.agg #[.int .i64 (x).1, .int .i64 (x).2.1, .int .i64 (x).2.2.1, .bool (x).2.2.2], .pointer (some ⟨u, 0, none⟩)] H (.bool (sameV v x)) H := by
  refine AFunC.of_body Try.func70 (by kernel_rfl) rfl (by kernel_rfl) (by simp [Try.ntmps70]) ?_
  simp -dsimp -implicitDefEqProofs (disch := omega) [go_sem, -List.getD_eq_getElem?_getD, ite_yes, c1, c2, hl]
  by_cases h1 : x.2.1 = v.2.1
  · simp -dsimp -implicitDefEqProofs (disch := omega) [go_sem, -List.getD_eq_getElem?_getD, ite_yes, h1, c1, c2, hl]
    exact fin_flat rfl (by simp [sameV, h1])
  · simp -dsimp -implicitDefEqProofs (disch := omega) [go_sem, -List.getD_eq_getElem?_getD, ite_yes, h1, c1, c2, hl]
    exact fin_flat rfl (by simp [sameV, h1])

theorem twinV_yes {l : List Vl} {m k : Nat} (hmk : m < k) (hml : m < l.length) (h : sameV (l.getD k vl0) (l.getD m vl0) = true) : twinV l k = true := by
  unfold twinV
  rcases ix_cases vl0 (sameV (l.getD k vl0)) (l.take k) with ⟨_, h2⟩ | ⟨q, h2, _⟩
  · have := h2 m (by rw [List.length_take]; omega)
    rw [getD_take' hmk, h] at this
    cases this
  · rw [h2]; exact decide_eq_true (by omega)
theorem twinV_no {l : List Vl} {k : Nat} (hk : k ≤ l.length) (h : findTo vl0 (sameV (l.getD k vl0)) l k) : twinV l k = false := by
  unfold twinV
  rcases ix_cases vl0 (sameV (l.getD k vl0)) (l.take k) with ⟨h2, _⟩ | ⟨q, h2, h3, h4, _⟩
  · rw [h2]; rfl
  · rw [List.length_take] at h3
    rw [getD_take' (by omega), h q (by omega)] at h4
    cases h4

theorem l4Good_A (n : Int) (ps : List Pp) (hps : ps.length ≤ 1048577) (cp : Nat) (l : List Vl) (hl : l.length ≤ 1048577) (c : Nat) (H : Heap) (tp t : Nat) (hP : Sl ppE H tp ps) (hS : Sl vlE H t l) :
    AFunC Try.prog 48 [netV n tp ps.length cp, .slice (some ⟨t, 0, none⟩) l.length c] H (.bool (goodV n ps l)) H := by
  refine AFunC.of_body Try.func48 (by kernel_rfl) rfl (by kernel_rfl) (by simp [Try.ntmps48]) ?_
  have ht := hS.lt
  have htp := hP.lt
  have cs := fun k hk => hS.cells (s := 4) (fun _ => rfl) vl0 k hk
  have csk := fun k hk => hS.cell (s := 4) (fun _ => rfl) vl0 k 0 hk (by omega)
  have cv1 := fun k hk => hS.cell (s := 4) (fun _ => rfl) vl0 k 1 hk (by omega)
  have cv2 := fun k hk => hS.cell (s := 4) (fun _ => rfl) vl0 k 2 hk (by omega)
  have cq := fun k hk => hP.cells (s := 4) (fun _ => rfl) pp0 k hk
  have cq1 := fun k hk => hP.cell (s := 4) (fun _ => rfl) pp0 k 1 hk (by omega)
  have cq2 := fun k hk => hP.cell (s := 4) (fun _ => rfl) pp0 k 2 hk (by omega)
  simp only [Nat.add_zero, vlE] at csk cs cv1 cv2
  simp only [Nat.add_zero, ppE] at cq cq1 cq2
  simp -dsimp -implicitDefEqProofs (disch := omega) [go_sem, -List.getD_eq_getElem?_getD, ite_yes, ht, htp]
  refine ACall.of (l2Good_A n ps hps cp _ tp hP.app) ?_
  cases hn : goodN n ps
  · simp -dsimp -implicitDefEqProofs (disch := omega) [go_sem, -List.getD_eq_getElem?_getD, ite_yes]
    exact fin_flat rfl (by rw [goodV, hn, Bool.false_and])
  have hN := NetAt.of hn
  simp -dsimp -implicitDefEqProofs (disch := omega) [go_sem, -List.getD_eq_getElem?_getD, ite_yes, ht, htp]
  refine AIf.of (fun h => ?_) (fun h10 => ?_)
  · simp -dsimp -implicitDefEqProofs (disch := omega) [go_sem, -List.getD_eq_getElem?_getD, ite_yes]
    exact fin_flat rfl (by simp at h; rw [goodV, hn, decide_eq_false (by omega)]; rfl)
  simp at h10
  have h10 : l.length ≤ 10 := by omega
  simp -dsimp -implicitDefEqProofs (disch := omega) [go_sem, -List.getD_eq_getElem?_getD, ite_yes, ht, htp]
  refine ALoop.intro (ι := Nat) (fun k => k ≤ l.length ∧ goodVTo ps l k) (fun k => [(1, .slice (some ⟨t, 0, none⟩) l.length c), (2, .pointer (some ⟨H.length, 0, none⟩)), (5, .int .i64 k)]) (fun _ => H ++ [some ⟨[.int .i64 n, .slice (some ⟨tp, 0, none⟩) ps.length cp], true, 34, 1⟩]) (fun k => l.length - k) 0 ⟨by omega, fun i hi => by omega⟩ ?_ ?_
  · refine weakS_mk [some 0] rfl ?_ (by simp -dsimp -implicitDefEqProofs (disch := omega) [go_sem, -List.getD_eq_getElem?_getD, ite_yes, ht, htp])
    simp -dsimp -implicitDefEqProofs (disch := omega) [go_sem, -List.getD_eq_getElem?_getD, ite_yes, ht, htp]
    exact wl_net htp
  rintro k ⟨hk, hg⟩
  by_cases hlt : k < l.length
  rotate_left
  · simp -dsimp -implicitDefEqProofs (disch := omega) [go_sem, -List.getD_eq_getElem?_getD, ite_yes, hlt]
    obtain rfl : k = l.length := by omega
    exact fin_flat rfl (by rw [goodV_end hn h10 hg])
  simp -dsimp -implicitDefEqProofs (disch := omega) [go_sem, -List.getD_eq_getElem?_getD, ite_yes, hlt, cs, ht, htp]
  refine ACall.of (l2Find_A n ps hps cp (l.getD k vl0).2.1 _ tp hP.app) ?_
  have hix := ix_cases pp0 (pipeIs (l.getD k vl0).2.1) ps
  rw [show ixOf (pipeIs (l.getD k vl0).2.1) ps = pipeIx ps (l.getD k vl0).2.1 from rfl] at hix
  have hon : onP ps (l.getD k vl0).2.1 (l.getD k vl0).2.2.1 = (decide (0 ≤ pipeIx ps (l.getD k vl0).2.1) && (decide ((ps.getD (pipeIx ps (l.getD k vl0).2.1).toNat pp0).2.1 = (l.getD k vl0).2.2.1) || decide ((ps.getD (pipeIx ps (l.getD k vl0).2.1).toNat pp0).2.2.1 = (l.getD k vl0).2.2.1))) := rfl
  generalize pipeIx ps (l.getD k vl0).2.1 = ix at *
  simp -dsimp -implicitDefEqProofs (disch := omega) [go_sem, -List.getD_eq_getElem?_getD, ite_yes, hlt, cs, ht, htp]
  refine ADraw.quiet (by kernel_rfl) (by kernel_rfl) (by kernel_rfl) ?_
  simp -dsimp -implicitDefEqProofs (disch := omega) [go_sem, -List.getD_eq_getElem?_getD, ite_yes, hlt, cs, csk, ht, htp]
  refine ACallQ.of (l1In_A (l.getD k vl0).1 1 99 _) rfl ?_
  cases e1 : inB (l.getD k vl0).1 1 99
  · simp -dsimp -implicitDefEqProofs (disch := omega) [go_sem, -List.getD_eq_getElem?_getD, ite_yes]
    exact fin_flat rfl (by rw [goodV_no hlt (by simp only [oneV, e1, Bool.false_and])])
  simp -dsimp -implicitDefEqProofs (disch := omega) [go_sem, -List.getD_eq_getElem?_getD, ite_yes, hlt, cs, csk, ht, htp]
  refine AIf.of (fun h2 => ?_) (fun h2 => ?_)
  · simp at h2
    simp -dsimp -implicitDefEqProofs (disch := omega) [go_sem, -List.getD_eq_getElem?_getD, ite_yes, hlt, cs, csk, ht, htp]
    refine AIf.of (fun h3 => ?_) (fun h3 => ?_)
    · simp -dsimp -implicitDefEqProofs (disch := omega) [go_sem, -List.getD_eq_getElem?_getD, ite_yes, hlt, cs, csk]
      exact fin_flat rfl (by rw [goodV_no hlt (by simp [-List.getD_eq_getElem?_getD] at h3; simp only [oneV]; rw [decide_eq_true h2, decide_eq_true h3]; simp)])
    · simp [-List.getD_eq_getElem?_getD] at h3
      have hb : (decide (0 < k) && decide ((l.getD k vl0).1 ≤ (l.getD (k - 1) vl0).1)) = false := by rw [decide_eq_false (show ¬ (l.getD k vl0).1 ≤ (l.getD (k - 1) vl0).1 by omega), Bool.and_false]
      simp -dsimp -implicitDefEqProofs (disch := omega) [go_sem, -List.getD_eq_getElem?_getD, ite_yes, hlt, cs, csk, ht, htp]
      rcases hix with ⟨hi, _⟩ | ⟨q, hi, hq, _, _⟩
      · subst hi
        simp -dsimp -implicitDefEqProofs (disch := omega) [go_sem, -List.getD_eq_getElem?_getD, ite_yes, hlt, cs, csk, ht, htp]
        exact fin_flat rfl (by rw [goodV_no hlt (by rw [oneV, hon]; simp)])
      subst hi
      have hqn : ¬ (q : Int) < 0 := by omega
      have hend := hN.f_end q hq
      simp only [Int.toNat_natCast] at hon
      obtain ⟨p, hp⟩ : ∃ p, ps.getD q pp0 = p := ⟨_, rfl⟩
      simp only [hp] at hon hend
      have cq0 := cq q hq
      have cq10 := cq1 q hq
      have cq20 := cq2 q hq
      rw [hp] at cq0 cq10 cq20
      have c1 := cv1 k hlt
      have c2 := cv2 k hlt
      by_cases h1 : p.2.1 = (l.getD k vl0).2.2.1
      · have hon1 : onP ps (l.getD k vl0).2.1 (l.getD k vl0).2.2.1 = true := by rw [hon, decide_eq_true (by omega), decide_eq_true h1]; rfl
        simp -dsimp -implicitDefEqProofs (disch := omega) [go_sem, -List.getD_eq_getElem?_getD, ite_yes, hlt, cs, csk, ht, htp, hqn, hq, h1, cq10, cq20]
        refine ALoop.intro (ι := Nat) (fun m => m ≤ k ∧ findTo vl0 (sameV (l.getD k vl0)) l m) (fun m => [(1, .slice (some ⟨t, 0, none⟩) l.length c), (2, .pointer (some ⟨H.length, 0, none⟩)), (5, .int .i64 k), (6, .pointer (some ⟨H.length + 1, 0, none⟩)), (8, .int .i64 m)]) (fun _ => H ++ [some ⟨[.int .i64 n, .slice (some ⟨tp, 0, none⟩) ps.length cp], true, 34, 1⟩, some ⟨[.int .i64 (l.getD k vl0).1, .int .i64 (l.getD k vl0).2.1, .int .i64 (l.getD k vl0).2.2.1, .bool (l.getD k vl0).2.2.2], true, 54, 1⟩]) (fun m => k - m) 0 ⟨by omega, fun i hi => by omega⟩ ?_ ?_
        · refine weakS_mk [some 0, some 1] rfl ?_ (by simp -dsimp -implicitDefEqProofs (disch := omega) [go_sem, -List.getD_eq_getElem?_getD, ite_yes, ht, htp])
          simp -dsimp -implicitDefEqProofs (disch := omega) [go_sem, -List.getD_eq_getElem?_getD, ite_yes, ht, htp]
          exact ⟨wl_net htp, wl_vl _⟩
        rintro m ⟨hm, hf⟩
        by_cases hmk : m < k
        · have hmk' : (m : Int) < (k : Int) := by omega
          have hml : m < l.length := by omega
          have d1 := cv1 m hml
          have d2 := cv2 m hml
          simp -dsimp -implicitDefEqProofs (disch := omega) [go_sem, -List.getD_eq_getElem?_getD, ite_yes, hmk, hmk', hml, d1, d2, ht, htp]
          refine ADraw.quiet (by kernel_rfl) (by kernel_rfl) (by kernel_rfl) ?_
          simp -dsimp -implicitDefEqProofs (disch := omega) [go_sem, -List.getD_eq_getElem?_getD, ite_yes, hmk, hmk', hml, d1, d2, ht, htp]
          by_cases h4 : (l.getD m vl0).2.1 = (l.getD k vl0).2.1
          · by_cases h5 : (l.getD m vl0).2.2.1 = (l.getD k vl0).2.2.1
            · simp -dsimp -implicitDefEqProofs (disch := omega) [go_sem, -List.getD_eq_getElem?_getD, ite_yes, hmk, hml, h4, h5, d1, d2, ht, htp]
              exact fin_flat rfl (by rw [goodV_no hlt (by rw [oneV, twinV_yes hmk hml (by simp only [sameV, decide_eq_true h4, decide_eq_true h5, Bool.and_self])]; simp)])
            · simp -dsimp -implicitDefEqProofs (disch := omega) [go_sem, -List.getD_eq_getElem?_getD, ite_yes, hmk, hml, h4, h5, d1, d2, ht, htp]
              refine LoopEnd.of (m + 1) ⟨by omega, hf.next (by simp only [sameV, decide_eq_false h5, Bool.and_false])⟩ (by omega) (weakS_mk [some 0, some 1] rfl ?_ (by simp -dsimp -implicitDefEqProofs (disch := omega) [go_sem, -List.getD_eq_getElem?_getD, ite_yes, ht, htp]))
              simp -dsimp -implicitDefEqProofs (disch := omega) [go_sem, -List.getD_eq_getElem?_getD, ite_yes, ht, htp]
              exact ⟨wl_net htp, wl_vl _⟩
          · simp -dsimp -implicitDefEqProofs (disch := omega) [go_sem, -List.getD_eq_getElem?_getD, ite_yes, hmk, hml, h4, d1, d2, ht, htp]
            refine LoopEnd.of (m + 1) ⟨by omega, hf.next (by simp only [sameV, decide_eq_false h4, Bool.false_and])⟩ (by omega) (weakS_mk [some 0, some 1] rfl ?_ (by simp -dsimp -implicitDefEqProofs (disch := omega) [go_sem, -List.getD_eq_getElem?_getD, ite_yes, ht, htp]))
            simp -dsimp -implicitDefEqProofs (disch := omega) [go_sem, -List.getD_eq_getElem?_getD, ite_yes, ht, htp]
            exact ⟨wl_net htp, wl_vl _⟩
        · have hmk' : ¬ (m : Int) < (k : Int) := by omega
          obtain rfl : m = k := by omega
          simp -dsimp -implicitDefEqProofs (disch := omega) [go_sem, -List.getD_eq_getElem?_getD, ite_yes, hmk]
          refine LoopEnd.of (m + 1) ⟨by omega, hg.next (by rw [oneV, e1, hb, hon1, twinV_no (by omega) hf]; rfl)⟩ (by omega) (weakS_mk [some 0] rfl ?_ (by simp -dsimp -implicitDefEqProofs (disch := omega) [go_sem, -List.getD_eq_getElem?_getD, ite_yes, ht, htp]))
          simp -dsimp -implicitDefEqProofs (disch := omega) [go_sem, -List.getD_eq_getElem?_getD, ite_yes, ht]
          exact wl_net htp
      · by_cases h2 : p.2.2.1 = (l.getD k vl0).2.2.1
        · have hon1 : onP ps (l.getD k vl0).2.1 (l.getD k vl0).2.2.1 = true := by rw [hon, decide_eq_true (by omega), decide_eq_true h2]; simp
          simp -dsimp -implicitDefEqProofs (disch := omega) [go_sem, -List.getD_eq_getElem?_getD, ite_yes, hlt, cs, csk, ht, htp, hqn, hq, h1, h2, cq10, cq20]
          refine ALoop.intro (ι := Nat) (fun m => m ≤ k ∧ findTo vl0 (sameV (l.getD k vl0)) l m) (fun m => [(1, .slice (some ⟨t, 0, none⟩) l.length c), (2, .pointer (some ⟨H.length, 0, none⟩)), (5, .int .i64 k), (6, .pointer (some ⟨H.length + 1, 0, none⟩)), (8, .int .i64 m)]) (fun _ => H ++ [some ⟨[.int .i64 n, .slice (some ⟨tp, 0, none⟩) ps.length cp], true, 34, 1⟩, some ⟨[.int .i64 (l.getD k vl0).1, .int .i64 (l.getD k vl0).2.1, .int .i64 (l.getD k vl0).2.2.1, .bool (l.getD k vl0).2.2.2], true, 54, 1⟩]) (fun m => k - m) 0 ⟨by omega, fun i hi => by omega⟩ ?_ ?_
          · refine weakS_mk [some 0, some 1] rfl ?_ (by simp -dsimp -implicitDefEqProofs (disch := omega) [go_sem, -List.getD_eq_getElem?_getD, ite_yes, ht, htp])
            simp -dsimp -implicitDefEqProofs (disch := omega) [go_sem, -List.getD_eq_getElem?_getD, ite_yes, ht, htp]
            exact ⟨wl_net htp, wl_vl _⟩
          rintro m ⟨hm, hf⟩
          by_cases hmk : m < k
          · have hmk' : (m : Int) < (k : Int) := by omega
            have hml : m < l.length := by omega
            have d1 := cv1 m hml
            have d2 := cv2 m hml
            simp -dsimp -implicitDefEqProofs (disch := omega) [go_sem, -List.getD_eq_getElem?_getD, ite_yes, hmk, hmk', hml, d1, d2, ht, htp]
            refine ADraw.quiet (by kernel_rfl) (by kernel_rfl) (by kernel_rfl) ?_
            simp -dsimp -implicitDefEqProofs (disch := omega) [go_sem, -List.getD_eq_getElem?_getD, ite_yes, hmk, hmk', hml, d1, d2, ht, htp]
            by_cases h4 : (l.getD m vl0).2.1 = (l.getD k vl0).2.1
            · by_cases h5 : (l.getD m vl0).2.2.1 = (l.getD k vl0).2.2.1
              · simp -dsimp -implicitDefEqProofs (disch := omega) [go_sem, -List.getD_eq_getElem?_getD, ite_yes, hmk, hml, h4, h5, d1, d2, ht, htp]
                exact fin_flat rfl (by rw [goodV_no hlt (by rw [oneV, twinV_yes hmk hml (by simp only [sameV, decide_eq_true h4, decide_eq_true h5, Bool.and_self])]; simp)])
              · simp -dsimp -implicitDefEqProofs (disch := omega) [go_sem, -List.getD_eq_getElem?_getD, ite_yes, hmk, hml, h4, h5, d1, d2, ht, htp]
                refine LoopEnd.of (m + 1) ⟨by omega, hf.next (by simp only [sameV, decide_eq_false h5, Bool.and_false])⟩ (by omega) (weakS_mk [some 0, some 1] rfl ?_ (by simp -dsimp -implicitDefEqProofs (disch := omega) [go_sem, -List.getD_eq_getElem?_getD, ite_yes, ht, htp]))
                simp -dsimp -implicitDefEqProofs (disch := omega) [go_sem, -List.getD_eq_getElem?_getD, ite_yes, ht, htp]
                exact ⟨wl_net htp, wl_vl _⟩
            · simp -dsimp -implicitDefEqProofs (disch := omega) [go_sem, -List.getD_eq_getElem?_getD, ite_yes, hmk, hml, h4, d1, d2, ht, htp]
              refine LoopEnd.of (m + 1) ⟨by omega, hf.next (by simp only [sameV, decide_eq_false h4, Bool.false_and])⟩ (by omega) (weakS_mk [some 0, some 1] rfl ?_ (by simp -dsimp -implicitDefEqProofs (disch := omega) [go_sem, -List.getD_eq_getElem?_getD, ite_yes, ht, htp]))
              simp -dsimp -implicitDefEqProofs (disch := omega) [go_sem, -List.getD_eq_getElem?_getD, ite_yes, ht, htp]
              exact ⟨wl_net htp, wl_vl _⟩
          · have hmk' : ¬ (m : Int) < (k : Int) := by omega
            obtain rfl : m = k := by omega
            simp -dsimp -implicitDefEqProofs (disch := omega) [go_sem, -List.getD_eq_getElem?_getD, ite_yes, hmk]
            refine LoopEnd.of (m + 1) ⟨by omega, hg.next (by rw [oneV, e1, hb, hon1, twinV_no (by omega) hf]; rfl)⟩ (by omega) (weakS_mk [some 0] rfl ?_ (by simp -dsimp -implicitDefEqProofs (disch := omega) [go_sem, -List.getD_eq_getElem?_getD, ite_yes, ht, htp]))
            simp -dsimp -implicitDefEqProofs (disch := omega) [go_sem, -List.getD_eq_getElem?_getD, ite_yes, ht]
            exact wl_net htp
        · simp -dsimp -implicitDefEqProofs (disch := omega) [go_sem, -List.getD_eq_getElem?_getD, ite_yes, hlt, cs, csk, ht, htp, hqn, hq, h1, h2, cq10, cq20]
          exact fin_flat rfl (by rw [goodV_no hlt (by simp only [oneV, hon]; rw [decide_eq_false h1, decide_eq_false h2]; simp)])
  · simp at h2
    have hb : (decide (0 < k) && decide ((l.getD k vl0).1 ≤ (l.getD (k - 1) vl0).1)) = false := by rw [decide_eq_false (show ¬ 0 < k by omega), Bool.false_and]
    simp -dsimp -implicitDefEqProofs (disch := omega) [go_sem, -List.getD_eq_getElem?_getD, ite_yes, hlt, cs, csk, ht, htp]
    rcases hix with ⟨hi, _⟩ | ⟨q, hi, hq, _, _⟩
    · subst hi
      simp -dsimp -implicitDefEqProofs (disch := omega) [go_sem, -List.getD_eq_getElem?_getD, ite_yes, hlt, cs, csk, ht, htp]
      exact fin_flat rfl (by rw [goodV_no hlt (by rw [oneV, hon]; simp)])
    subst hi
    have hqn : ¬ (q : Int) < 0 := by omega
    have hend := hN.f_end q hq
    simp only [Int.toNat_natCast] at hon
    obtain ⟨p, hp⟩ : ∃ p, ps.getD q pp0 = p := ⟨_, rfl⟩
    simp only [hp] at hon hend
    have cq0 := cq q hq
    have cq10 := cq1 q hq
    have cq20 := cq2 q hq
    rw [hp] at cq0 cq10 cq20
    have c1 := cv1 k hlt
    have c2 := cv2 k hlt
    by_cases h1 : p.2.1 = (l.getD k vl0).2.2.1
    · have hon1 : onP ps (l.getD k vl0).2.1 (l.getD k vl0).2.2.1 = true := by rw [hon, decide_eq_true (by omega), decide_eq_true h1]; rfl
      simp -dsimp -implicitDefEqProofs (disch := omega) [go_sem, -List.getD_eq_getElem?_getD, ite_yes, hlt, cs, csk, ht, htp, hqn, hq, h1, cq10, cq20]
      refine ALoop.intro (ι := Nat) (fun m => m ≤ k ∧ findTo vl0 (sameV (l.getD k vl0)) l m) (fun m => [(1, .slice (some ⟨t, 0, none⟩) l.length c), (2, .pointer (some ⟨H.length, 0, none⟩)), (5, .int .i64 k), (6, .pointer (some ⟨H.length + 1, 0, none⟩)), (8, .int .i64 m)]) (fun _ => H ++ [some ⟨[.int .i64 n, .slice (some ⟨tp, 0, none⟩) ps.length cp], true, 34, 1⟩, some ⟨[.int .i64 (l.getD k vl0).1, .int .i64 (l.getD k vl0).2.1, .int .i64 (l.getD k vl0).2.2.1, .bool (l.getD k vl0).2.2.2], true, 54, 1⟩]) (fun m => k - m) 0 ⟨by omega, fun i hi => by omega⟩ ?_ ?_
      · refine weakS_mk [some 0, some 1] rfl ?_ (by simp -dsimp -implicitDefEqProofs (disch := omega) [go_sem, -List.getD_eq_getElem?_getD, ite_yes, ht, htp])
        simp -dsimp -implicitDefEqProofs (disch := omega) [go_sem, -List.getD_eq_getElem?_getD, ite_yes, ht, htp]
        exact ⟨wl_net htp, wl_vl _⟩
      rintro m ⟨hm, hf⟩
      by_cases hmk : m < k
      · exact absurd hmk (by omega)
      · have hmk' : ¬ (m : Int) < (k : Int) := by omega
        obtain rfl : m = k := by omega
        simp -dsimp -implicitDefEqProofs (disch := omega) [go_sem, -List.getD_eq_getElem?_getD, ite_yes, hmk]
        refine LoopEnd.of (m + 1) ⟨by omega, hg.next (by rw [oneV, e1, hb, hon1, twinV_no (by omega) hf]; rfl)⟩ (by omega) (weakS_mk [some 0] rfl ?_ (by simp -dsimp -implicitDefEqProofs (disch := omega) [go_sem, -List.getD_eq_getElem?_getD, ite_yes, ht, htp]))
        simp -dsimp -implicitDefEqProofs (disch := omega) [go_sem, -List.getD_eq_getElem?_getD, ite_yes, ht]
        exact wl_net htp
    · by_cases h2 : p.2.2.1 = (l.getD k vl0).2.2.1
      · have hon1 : onP ps (l.getD k vl0).2.1 (l.getD k vl0).2.2.1 = true := by rw [hon, decide_eq_true (by omega), decide_eq_true h2]; simp
        simp -dsimp -implicitDefEqProofs (disch := omega) [go_sem, -List.getD_eq_getElem?_getD, ite_yes, hlt, cs, csk, ht, htp, hqn, hq, h1, h2, cq10, cq20]
        refine ALoop.intro (ι := Nat) (fun m => m ≤ k ∧ findTo vl0 (sameV (l.getD k vl0)) l m) (fun m => [(1, .slice (some ⟨t, 0, none⟩) l.length c), (2, .pointer (some ⟨H.length, 0, none⟩)), (5, .int .i64 k), (6, .pointer (some ⟨H.length + 1, 0, none⟩)), (8, .int .i64 m)]) (fun _ => H ++ [some ⟨[.int .i64 n, .slice (some ⟨tp, 0, none⟩) ps.length cp], true, 34, 1⟩, some ⟨[.int .i64 (l.getD k vl0).1, .int .i64 (l.getD k vl0).2.1, .int .i64 (l.getD k vl0).2.2.1, .bool (l.getD k vl0).2.2.2], true, 54, 1⟩]) (fun m => k - m) 0 ⟨by omega, fun i hi => by omega⟩ ?_ ?_
        · refine weakS_mk [some 0, some 1] rfl ?_ (by simp -dsimp -implicitDefEqProofs (disch := omega) [go_sem, -List.getD_eq_getElem?_getD, ite_yes, ht, htp])
          simp -dsimp -implicitDefEqProofs (disch := omega) [go_sem, -List.getD_eq_getElem?_getD, ite_yes, ht, htp]
          exact ⟨wl_net htp, wl_vl _⟩
        rintro m ⟨hm, hf⟩
        by_cases hmk : m < k
        · exact absurd hmk (by omega)
        · have hmk' : ¬ (m : Int) < (k : Int) := by omega
          obtain rfl : m = k := by omega
          simp -dsimp -implicitDefEqProofs (disch := omega) [go_sem, -List.getD_eq_getElem?_getD, ite_yes, hmk]
          refine LoopEnd.of (m + 1) ⟨by omega, hg.next (by rw [oneV, e1, hb, hon1, twinV_no (by omega) hf]; rfl)⟩ (by omega) (weakS_mk [some 0] rfl ?_ (by simp -dsimp -implicitDefEqProofs (disch := omega) [go_sem, -List.getD_eq_getElem?_getD, ite_yes, ht, htp]))
          simp -dsimp -implicitDefEqProofs (disch := omega) [go_sem, -List.getD_eq_getElem?_getD, ite_yes, ht]
          exact wl_net htp
      · simp -dsimp -implicitDefEqProofs (disch := omega) [go_sem, -List.getD_eq_getElem?_getD, ite_yes, hlt, cs, csk, ht, htp, hqn, hq, h1, h2, cq10, cq20]
        exact fin_flat rfl (by rw [goodV_no hlt (by simp only [oneV, hon]; rw [decide_eq_false h1, decide_eq_false h2]; simp)])
theorem iValidValves_A (n : Int) (ps : List Pp) (hps : ps.length ≤ 1048577) (cp : Nat) (l : List Vl) (hl : l.length ≤ 1048577) (c : Nat) (H : Heap) (tp t : Nat) (hP : Sl ppE H tp ps) (hS : Sl vlE H t l) :
    AFunC Try.prog 52 [netV n tp ps.length cp, .slice (some ⟨t, 0, none⟩) l.length c] H (.bool (goodV n ps l)) H := by
  refine AFunC.of_body Try.func52 (by kernel_rfl) rfl (by kernel_rfl) (by simp [Try.ntmps52]) ?_
  have ht := hS.lt
  have htp := hP.lt
  have cs := fun k hk => hS.cells (s := 4) (fun _ => rfl) vl0 k hk
  have csk := fun k hk => hS.cell (s := 4) (fun _ => rfl) vl0 k 0 hk (by omega)
  have cv1 := fun k hk => hS.cell (s := 4) (fun _ => rfl) vl0 k 1 hk (by omega)
  have cv2 := fun k hk => hS.cell (s := 4) (fun _ => rfl) vl0 k 2 hk (by omega)
  have cq := fun k hk => hP.cells (s := 4) (fun _ => rfl) pp0 k hk
  have cq1 := fun k hk => hP.cell (s := 4) (fun _ => rfl) pp0 k 1 hk (by omega)
  have cq2 := fun k hk => hP.cell (s := 4) (fun _ => rfl) pp0 k 2 hk (by omega)
  simp only [Nat.add_zero, vlE] at csk cs cv1 cv2
  simp only [Nat.add_zero, ppE] at cq cq1 cq2
  simp -dsimp -implicitDefEqProofs (disch := omega) [go_sem, -List.getD_eq_getElem?_getD, ite_yes, ht, htp]
  refine ACall.of (iValidNetwork_A n ps hps cp _ tp hP.app) ?_
  cases hn : goodN n ps
  · simp -dsimp -implicitDefEqProofs (disch := omega) [go_sem, -List.getD_eq_getElem?_getD, ite_yes]
    exact fin_flat rfl (by rw [goodV, hn, Bool.false_and])
  have hN := NetAt.of hn
  simp -dsimp -implicitDefEqProofs (disch := omega) [go_sem, -List.getD_eq_getElem?_getD, ite_yes, ht, htp]
  refine AIf.of (fun h => ?_) (fun h10 => ?_)
  · simp -dsimp -implicitDefEqProofs (disch := omega) [go_sem, -List.getD_eq_getElem?_getD, ite_yes]
    exact fin_flat rfl (by simp at h; rw [goodV, hn, decide_eq_false (by omega)]; rfl)
  simp at h10
  have h10 : l.length ≤ 10 := by omega
  simp -dsimp -implicitDefEqProofs (disch := omega) [go_sem, -List.getD_eq_getElem?_getD, ite_yes, ht, htp]
  refine ALoop.intro (ι := Nat) (fun k => k ≤ l.length ∧ goodVTo ps l k) (fun k => [(1, .slice (some ⟨t, 0, none⟩) l.length c), (2, .pointer (some ⟨H.length, 0, none⟩)), (16, .slice (some ⟨t, 0, none⟩) l.length c), (17, .int .i64 l.length), (18, .int .i64 k)]) (fun _ => H ++ [some ⟨[.int .i64 n, .slice (some ⟨tp, 0, none⟩) ps.length cp], true, 34, 1⟩]) (fun k => l.length - k) 0 ⟨by omega, fun i hi => by omega⟩ ?_ ?_
  · refine weakS_mk [some 0] rfl ?_ (by simp -dsimp -implicitDefEqProofs (disch := omega) [go_sem, -List.getD_eq_getElem?_getD, ite_yes, ht, htp])
    simp -dsimp -implicitDefEqProofs (disch := omega) [go_sem, -List.getD_eq_getElem?_getD, ite_yes, ht, htp]
    exact wl_net htp
  rintro k ⟨hk, hg⟩
  by_cases hlt : k < l.length
  rotate_left
  · simp -dsimp -implicitDefEqProofs (disch := omega) [go_sem, -List.getD_eq_getElem?_getD, ite_yes, hlt]
    obtain rfl : k = l.length := by omega
    exact fin_flat rfl (by rw [goodV_end hn h10 hg])
  simp -dsimp -implicitDefEqProofs (disch := omega) [go_sem, -List.getD_eq_getElem?_getD, ite_yes, hlt, cs, ht, htp]
  refine ACall.of (pipeIndex_A n ps hps cp (l.getD k vl0).2.1 _ tp hP.app) ?_
  have hix := ix_cases pp0 (pipeIs (l.getD k vl0).2.1) ps
  rw [show ixOf (pipeIs (l.getD k vl0).2.1) ps = pipeIx ps (l.getD k vl0).2.1 from rfl] at hix
  have hon : onP ps (l.getD k vl0).2.1 (l.getD k vl0).2.2.1 = (decide (0 ≤ pipeIx ps (l.getD k vl0).2.1) && (decide ((ps.getD (pipeIx ps (l.getD k vl0).2.1).toNat pp0).2.1 = (l.getD k vl0).2.2.1) || decide ((ps.getD (pipeIx ps (l.getD k vl0).2.1).toNat pp0).2.2.1 = (l.getD k vl0).2.2.1))) := rfl
  generalize pipeIx ps (l.getD k vl0).2.1 = ix at *
  simp -dsimp -implicitDefEqProofs (disch := omega) [go_sem, -List.getD_eq_getElem?_getD, ite_yes, hlt, cs, ht, htp]
  refine ADraw.quiet (by kernel_rfl) (by kernel_rfl) (by kernel_rfl) ?_
  simp -dsimp -implicitDefEqProofs (disch := omega) [go_sem, -List.getD_eq_getElem?_getD, ite_yes, hlt, cs, csk, ht, htp]
  refine ACallQ.of (inside_A (l.getD k vl0).1 1 99 _) rfl ?_
  cases e1 : inB (l.getD k vl0).1 1 99
  · simp -dsimp -implicitDefEqProofs (disch := omega) [go_sem, -List.getD_eq_getElem?_getD, ite_yes]
    exact fin_flat rfl (by rw [goodV_no hlt (by simp only [oneV, e1, Bool.false_and])])
  simp -dsimp -implicitDefEqProofs (disch := omega) [go_sem, -List.getD_eq_getElem?_getD, ite_yes, hlt, cs, csk, ht, htp]
  refine AIf.of (fun h2 => ?_) (fun h2 => ?_)
  · simp at h2
    simp -dsimp -implicitDefEqProofs (disch := omega) [go_sem, -List.getD_eq_getElem?_getD, ite_yes, hlt, cs, csk, ht, htp]
    refine AIf.of (fun h3 => ?_) (fun h3 => ?_)
    · simp -dsimp -implicitDefEqProofs (disch := omega) [go_sem, -List.getD_eq_getElem?_getD, ite_yes, hlt, cs, csk]
      exact fin_flat rfl (by rw [goodV_no hlt (by simp [-List.getD_eq_getElem?_getD] at h3; simp only [oneV]; rw [decide_eq_true h2, decide_eq_true h3]; simp)])
    · simp [-List.getD_eq_getElem?_getD] at h3
      have hb : (decide (0 < k) && decide ((l.getD k vl0).1 ≤ (l.getD (k - 1) vl0).1)) = false := by rw [decide_eq_false (show ¬ (l.getD k vl0).1 ≤ (l.getD (k - 1) vl0).1 by omega), Bool.and_false]
      simp -dsimp -implicitDefEqProofs (disch := omega) [go_sem, -List.getD_eq_getElem?_getD, ite_yes, hlt, cs, csk, ht, htp]
      rcases hix with ⟨hi, _⟩ | ⟨q, hi, hq, _, _⟩
      · subst hi
        simp -dsimp -implicitDefEqProofs (disch := omega) [go_sem, -List.getD_eq_getElem?_getD, ite_yes, hlt, cs, csk, ht, htp]
        exact fin_flat rfl (by rw [goodV_no hlt (by rw [oneV, hon]; simp)])
      subst hi
      have hqn : ¬ (q : Int) < 0 := by omega
      have hend := hN.f_end q hq
      simp only [Int.toNat_natCast] at hon
      obtain ⟨p, hp⟩ : ∃ p, ps.getD q pp0 = p := ⟨_, rfl⟩
      simp only [hp] at hon hend
      have cq0 := cq q hq
      have cq10 := cq1 q hq
      have cq20 := cq2 q hq
      rw [hp] at cq0 cq10 cq20
      by_cases h1 : (l.getD k vl0).2.2.1 < 1
      · simp -dsimp -implicitDefEqProofs (disch := omega) [go_sem, -List.getD_eq_getElem?_getD, ite_yes, hlt, cs, csk, ht, htp, hqn, hq, h1]
        exact fin_flat rfl (by rw [goodV_no hlt (by simp only [oneV, hon]; rw [decide_eq_false (show ¬ p.2.1 = (l.getD k vl0).2.2.1 by omega), decide_eq_false (show ¬ p.2.2.1 = (l.getD k vl0).2.2.1 by omega)]; simp)])
      simp -dsimp -implicitDefEqProofs (disch := omega) [go_sem, -List.getD_eq_getElem?_getD, ite_yes, hlt, cs, csk, ht, htp, hqn, hq, h1, cq0]
      refine ACallQ.of (other_A p (l.getD k vl0).2.2.1 _) rfl ?_
      by_cases h2 : otherOf p (l.getD k vl0).2.2.1 = 0
      · simp -dsimp -implicitDefEqProofs (disch := omega) [go_sem, -List.getD_eq_getElem?_getD, ite_yes, h2]
        exact fin_flat rfl (by rw [goodV_no hlt (by simp only [oneV, hon]; unfold otherOf at h2; rw [decide_eq_false (show ¬ p.2.1 = (l.getD k vl0).2.2.1 by split at h2 <;> (try split at h2) <;> omega), decide_eq_false (show ¬ p.2.2.1 = (l.getD k vl0).2.2.1 by split at h2 <;> (try split at h2) <;> omega)]; simp)])
      have hon1 : onP ps (l.getD k vl0).2.1 (l.getD k vl0).2.2.1 = true := by
        rw [hon, decide_eq_true (by omega), Bool.true_and, Bool.or_eq_true, decide_eq_true_eq, decide_eq_true_eq]
        unfold otherOf at h2
        split at h2 <;> (try split at h2) <;> omega
      have c1 := cv1 k hlt
      have c2 := cv2 k hlt
      have ki : ((k : Int)).toNat = k := Int.toNat_natCast k
      simp -dsimp -implicitDefEqProofs (disch := omega) [go_sem, -List.getD_eq_getElem?_getD, ite_yes, h2, hlt, hk, cs, csk, ht, htp]
      have A := containsFuncVl_A (l.take k) (sameV (l.getD k vl0)) 70 #[.pointer (some ⟨H.length + 1, 0, none⟩)] (by rw [List.length_take]; omega) k (H ++ [some ⟨[.int .i64 n, .slice (some ⟨tp, 0, none⟩) ps.length cp], true, 34, 1⟩, some ⟨[.int .i64 (l.getD k vl0).1, .int .i64 (l.getD k vl0).2.1, .int .i64 (l.getD k vl0).2.2.1, .bool (l.getD k vl0).2.2.2], true, 54, 1⟩]) t (hS.take k).app (by simp -dsimp -implicitDefEqProofs (disch := omega) [go_sem, -List.getD_eq_getElem?_getD, ite_yes, ht]) (fun j hj => validValves1_A _ _ _ _ (by simp) (by simp -dsimp -implicitDefEqProofs (disch := omega) [go_sem, -List.getD_eq_getElem?_getD, ite_yes, ht]) (by simp -dsimp -implicitDefEqProofs (disch := omega) [go_sem, -List.getD_eq_getElem?_getD, ite_yes, ht]))
      rw [List.length_take_of_le hk, show decide (0 ≤ ixOf (sameV (l.getD k vl0)) (l.take k)) = twinV l k from rfl] at A
      refine ACall.of A ?_
      cases h3 : twinV l k
      · simp -dsimp -implicitDefEqProofs (disch := omega) [go_sem, -List.getD_eq_getElem?_getD, ite_yes, hlt]
        refine LoopEnd.of (k + 1) ⟨by omega, hg.next (by rw [oneV, e1, hb, hon1, h3]; rfl)⟩ (by omega) (weakS_mk [some 0] rfl ?_ (by simp -dsimp -implicitDefEqProofs (disch := omega) [go_sem, -List.getD_eq_getElem?_getD, ite_yes, ht, htp]))
        simp -dsimp -implicitDefEqProofs (disch := omega) [go_sem, -List.getD_eq_getElem?_getD, ite_yes, ht]
        exact wl_net htp
      · simp -dsimp -implicitDefEqProofs (disch := omega) [go_sem, -List.getD_eq_getElem?_getD, ite_yes, hlt]
        exact fin_flat rfl (by rw [goodV_no hlt (by rw [oneV, h3]; simp)])
  · simp at h2
    have hb : (decide (0 < k) && decide ((l.getD k vl0).1 ≤ (l.getD (k - 1) vl0).1)) = false := by rw [decide_eq_false (show ¬ 0 < k by omega), Bool.false_and]
    simp -dsimp -implicitDefEqProofs (disch := omega) [go_sem, -List.getD_eq_getElem?_getD, ite_yes, hlt, cs, csk, ht, htp]
    rcases hix with ⟨hi, _⟩ | ⟨q, hi, hq, _, _⟩
    · subst hi
      simp -dsimp -implicitDefEqProofs (disch := omega) [go_sem, -List.getD_eq_getElem?_getD, ite_yes, hlt, cs, csk, ht, htp]
      exact fin_flat rfl (by rw [goodV_no hlt (by rw [oneV, hon]; simp)])
    subst hi
    have hqn : ¬ (q : Int) < 0 := by omega
    have hend := hN.f_end q hq
    simp only [Int.toNat_natCast] at hon
    obtain ⟨p, hp⟩ : ∃ p, ps.getD q pp0 = p := ⟨_, rfl⟩
    simp only [hp] at hon hend
    have cq0 := cq q hq
    have cq10 := cq1 q hq
    have cq20 := cq2 q hq
    rw [hp] at cq0 cq10 cq20
    by_cases h1 : (l.getD k vl0).2.2.1 < 1
    · simp -dsimp -implicitDefEqProofs (disch := omega) [go_sem, -List.getD_eq_getElem?_getD, ite_yes, hlt, cs, csk, ht, htp, hqn, hq, h1]
      exact fin_flat rfl (by rw [goodV_no hlt (by simp only [oneV, hon]; rw [decide_eq_false (show ¬ p.2.1 = (l.getD k vl0).2.2.1 by omega), decide_eq_false (show ¬ p.2.2.1 = (l.getD k vl0).2.2.1 by omega)]; simp)])
    simp -dsimp -implicitDefEqProofs (disch := omega) [go_sem, -List.getD_eq_getElem?_getD, ite_yes, hlt, cs, csk, ht, htp, hqn, hq, h1, cq0]
    refine ACallQ.of (other_A p (l.getD k vl0).2.2.1 _) rfl ?_
    by_cases h2 : otherOf p (l.getD k vl0).2.2.1 = 0
    · simp -dsimp -implicitDefEqProofs (disch := omega) [go_sem, -List.getD_eq_getElem?_getD, ite_yes, h2]
      exact fin_flat rfl (by rw [goodV_no hlt (by simp only [oneV, hon]; unfold otherOf at h2; rw [decide_eq_false (show ¬ p.2.1 = (l.getD k vl0).2.2.1 by split at h2 <;> (try split at h2) <;> omega), decide_eq_false (show ¬ p.2.2.1 = (l.getD k vl0).2.2.1 by split at h2 <;> (try split at h2) <;> omega)]; simp)])
    have hon1 : onP ps (l.getD k vl0).2.1 (l.getD k vl0).2.2.1 = true := by
      rw [hon, decide_eq_true (by omega), Bool.true_and, Bool.or_eq_true, decide_eq_true_eq, decide_eq_true_eq]
      unfold otherOf at h2
      split at h2 <;> (try split at h2) <;> omega
    have c1 := cv1 k hlt
    have c2 := cv2 k hlt
    have ki : ((k : Int)).toNat = k := Int.toNat_natCast k
    simp -dsimp -implicitDefEqProofs (disch := omega) [go_sem, -List.getD_eq_getElem?_getD, ite_yes, h2, hlt, hk, cs, csk, ht, htp]
    have A := containsFuncVl_A (l.take k) (sameV (l.getD k vl0)) 70 #[.pointer (some ⟨H.length + 1, 0, none⟩)] (by rw [List.length_take]; omega) k (H ++ [some ⟨[.int .i64 n, .slice (some ⟨tp, 0, none⟩) ps.length cp], true, 34, 1⟩, some ⟨[.int .i64 (l.getD k vl0).1, .int .i64 (l.getD k vl0).2.1, .int .i64 (l.getD k vl0).2.2.1, .bool (l.getD k vl0).2.2.2], true, 54, 1⟩]) t (hS.take k).app (by simp -dsimp -implicitDefEqProofs (disch := omega) [go_sem, -List.getD_eq_getElem?_getD, ite_yes, ht]) (fun j hj => validValves1_A _ _ _ _ (by simp) (by simp -dsimp -implicitDefEqProofs (disch := omega) [go_sem, -List.getD_eq_getElem?_getD, ite_yes, ht]) (by simp -dsimp -implicitDefEqProofs (disch := omega) [go_sem, -List.getD_eq_getElem?_getD, ite_yes, ht]))
    rw [List.length_take_of_le hk, show decide (0 ≤ ixOf (sameV (l.getD k vl0)) (l.take k)) = twinV l k from rfl] at A
    rw [show Value.slice (some ⟨t, 0, none⟩) k k = .slice (some ⟨t, 0, none⟩) 0 0 by rw [show k = 0 by omega]] at A
    refine ACall.of A ?_
    cases h3 : twinV l k
    · simp -dsimp -implicitDefEqProofs (disch := omega) [go_sem, -List.getD_eq_getElem?_getD, ite_yes, hlt]
      refine LoopEnd.of (k + 1) ⟨by omega, hg.next (by rw [oneV, e1, hb, hon1, h3]; rfl)⟩ (by omega) (weakS_mk [some 0] rfl ?_ (by simp -dsimp -implicitDefEqProofs (disch := omega) [go_sem, -List.getD_eq_getElem?_getD, ite_yes, ht, htp]))
      simp -dsimp -implicitDefEqProofs (disch := omega) [go_sem, -List.getD_eq_getElem?_getD, ite_yes, ht]
      exact wl_net htp
    · simp -dsimp -implicitDefEqProofs (disch := omega) [go_sem, -List.getD_eq_getElem?_getD, ite_yes, hlt]
      exact fin_flat rfl (by rw [goodV_no hlt (by rw [oneV, h3]; simp)])
end Go.Proofs.Ytamkdgjagjpmlaa
