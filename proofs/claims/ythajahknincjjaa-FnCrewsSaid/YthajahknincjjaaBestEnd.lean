/- BestEnd: both sides, and the law. -/
import Derived.Test.YthajahknincjjaaEndOf
import Derived.Test.YthajahknincjjaaAm17
namespace Go.Proofs.Ythajahknincjjaa
open Go.Am
set_option linter.unusedVariables false
set_option linter.unusedSimpArgs false
set_option maxRecDepth 100000
set_option maxHeartbeats 4000000

abbrev Bst := List Int × Int
def vTo (rec : List Int → Bst → Bst) (a : List Int) (s : Bst) : Nat → Bst
  | 0 => s
  | k + 1 => rec (a ++ [(k : Int)]) (vTo rec a s k)
/-- the program's search -/
def visB (l : List Tk) (crews : Int) : Nat → List Int → Bst → Bst
  | 0, _, s => s
  | f + 1, a, s => if a.length < l.length then vTo (visB l crews f) a s crews.toNat else if s.2 < 0 ∨ endN l crews a < s.2 then (a, endN l crews a) else s
def bTo (rec : List Int → Bst) (a : List Int) : Nat → Bst
  | 0 => ([], -1)
  | k + 1 => if (bTo rec a k).2 < 0 ∨ (rec (a ++ [(k : Int)])).2 < (bTo rec a k).2 then rec (a ++ [(k : Int)]) else bTo rec a k
/-- the reference's recursion -/
def bstB (l : List Tk) (crews : Int) : Nat → List Int → Bst
  | 0, _ => ([], -1)
  | f + 1, a => if a.length = l.length then (a, endN l crews a) else bTo (bstB l crews f) a crews.toNat
def cmb (q s : Bst) : Bst := if q.2 < 0 then s else if s.2 < 0 ∨ q.2 < s.2 then q else s
theorem cmb_neg {q s : Bst} (h : q.2 < 0) : cmb q s = s := if_pos h
theorem cmb_yes {q s : Bst} (h : 0 ≤ q.2) (h2 : s.2 < 0 ∨ q.2 < s.2) : cmb q s = q := by
  unfold cmb; rw [if_neg (by omega), if_pos h2]
theorem cmb_no {q s : Bst} (h2 : ¬ (s.2 < 0 ∨ q.2 < s.2)) : cmb q s = s := by
  unfold cmb
  by_cases h : q.2 < 0
  · rw [if_pos h]
  · rw [if_neg h, if_neg h2]
theorem cmb_cmb {q r s : Bst} (hq : 0 ≤ q.2) : cmb q (cmb r s) = cmb (if r.2 < 0 ∨ q.2 < r.2 then q else r) s := by
  by_cases h2 : r.2 < 0
  · rw [cmb_neg h2, if_pos (.inl h2)]
  · by_cases h3 : q.2 < r.2
    · rw [if_pos (.inr h3)]
      by_cases h4 : s.2 < 0 ∨ r.2 < s.2
      · rw [cmb_yes (q := r) (by omega) h4, cmb_yes (s := s) hq (by omega), cmb_yes hq (.inr h3)]
      · rw [cmb_no h4]
    · rw [if_neg (by omega)]
      by_cases h4 : s.2 < 0 ∨ r.2 < s.2
      · rw [cmb_yes (q := r) (by omega) h4, cmb_no (by omega)]
      · rw [cmb_no (q := r) h4, cmb_no (by omega)]
/-- assignments that are begun -/
structure GoodB (l : List Tk) (crews : Int) (a : List Int) : Prop where
  g_ok : askOk l crews = true
  g_len : a.length ≤ l.length
  g_in : ∀ i, i < a.length → 0 ≤ a.getD i 0 ∧ a.getD i 0 ≤ crews - 1
theorem GoodB.crews {l : List Tk} {crews : Int} {a : List Int} (h : GoodB l crews a) : goodT l = true ∧ 1 ≤ crews ∧ crews ≤ 3 ∧ l.length ≤ 7 := by
  have := h.g_ok
  simp only [askOk, inB, Bool.and_eq_true, decide_eq_true_eq] at this
  exact ⟨this.1, this.2.1, this.2.2, (goodT_at this.1).1⟩
theorem GoodB.at {l : List Tk} {crews : Int} {a : List Int} (h : GoodB l crews a) (hl : a.length = l.length) : AsgAt l crews a := ⟨h.crews.1, ⟨h.crews.2.1, h.crews.2.2.1⟩, hl, h.g_in⟩
theorem GoodB.snoc {l : List Tk} {crews : Int} {a : List Int} (h : GoodB l crews a) (hl : a.length < l.length) {k : Nat} (hk : k < crews.toNat) : GoodB l crews (a ++ [(k : Int)]) := by
  refine ⟨h.g_ok, by simp; omega, fun i hi => ?_⟩
  rw [List.length_append, List.length_singleton] at hi
  rcases Nat.lt_or_ge i a.length with h' | h'
  · have := h.g_in i h'
    rw [List.getD_eq_getElem?_getD, List.getElem?_append_left h', ← List.getD_eq_getElem?_getD]
    exact this
  · rw [show i = a.length by omega, List.getD_eq_getElem?_getD, List.getElem?_append_right (Nat.le_refl _), Nat.sub_self]
    have := h.crews
    show 0 ≤ (k : Int) ∧ (k : Int) ≤ crews - 1
    omega
theorem bTo_pos {rec : List Int → Bst} {a : List Int} : ∀ k : Nat, (∀ j, j < k → 0 ≤ (rec (a ++ [(j : Int)])).2) → 0 < k → 0 ≤ (bTo rec a k).2
  | 0, _, h => absurd h (Nat.lt_irrefl _)
  | k + 1, h, _ => by
    rw [bTo]
    have h1 := h k (by omega)
    split
    · exact h1
    · rename_i h2
      omega
theorem vis_bst {l : List Tk} {crews : Int} : ∀ (f : Nat) (a : List Int), GoodB l crews a → l.length - a.length < f → 0 ≤ (bstB l crews f a).2 ∧ ∀ s, visB l crews f a s = cmb (bstB l crews f a) s
  | 0, a, hg, h => absurd h (Nat.not_lt_zero _)
  | f + 1, a, hg, hf => by
    have hc := hg.crews
    have hle := hg.g_len
    rw [bstB]
    by_cases hl : a.length = l.length
    · rw [if_pos hl]
      have hb := endN_bound (hg.at hl)
      refine ⟨hb.1, fun s => ?_⟩
      rw [visB, if_neg (by omega)]
      by_cases h : s.2 < 0 ∨ endN l crews a < s.2
      · rw [if_pos h, cmb_yes hb.1 h]
      · rw [if_neg h, cmb_no h]
    · rw [if_neg hl]
      have ih : ∀ k, k < crews.toNat → 0 ≤ (bstB l crews f (a ++ [(k : Int)])).2 ∧ ∀ s, visB l crews f (a ++ [(k : Int)]) s = cmb (bstB l crews f (a ++ [(k : Int)])) s := fun k hk =>
        vis_bst f _ (hg.snoc (by omega) hk) (by simp; omega)
      refine ⟨bTo_pos _ (fun j hj => (ih j hj).1) (by omega), fun s => ?_⟩
      rw [visB, if_pos (by omega)]
      have hto : ∀ k, k ≤ crews.toNat → vTo (visB l crews f) a s k = cmb (bTo (bstB l crews f) a k) s := by
        intro k hk
        induction k with
        | zero => rfl
        | succ k ihk =>
          rw [vTo, bTo, ihk (by omega), (ih k (by omega)).2]
          exact cmb_cmb (ih k (by omega)).1
      exact hto _ (Nat.le_refl _)
def bestB (l : List Tk) (crews : Int) : Bst := bstB l crews (l.length + 1) []
theorem vis_bestB {l : List Tk} {crews : Int} (h : askOk l crews = true) : visB l crews (l.length + 1) [] ([], -1) = bestB l crews := by
  obtain ⟨h1, h2⟩ := vis_bst (l.length + 1) [] ⟨h, by simp, fun i hi => absurd hi (by simp)⟩ (by simp)
  rw [h2, cmb_yes h1 (.inl (by simp))]; rfl
theorem bTo_len {rec : List Int → Bst} {a : List Int} {B : Nat} (h : ∀ b, (rec b).1.length ≤ B) : ∀ k, (bTo rec a k).1.length ≤ B
  | 0 => by simp [bTo]
  | k + 1 => by
    have ih := bTo_len (a := a) h k
    rw [bTo]
    split
    · exact h _
    · exact ih
theorem bstB_len {l : List Tk} {crews : Int} : ∀ (f : Nat) (a : List Int), (bstB l crews f a).1.length ≤ l.length
  | 0, a => by simp [bstB]
  | f + 1, a => by
    rw [bstB]
    split
    · rename_i h; simp only; omega
    · exact bTo_len (bstB_len f) _
structure WEnv (l : List Tk) (crews : Int) (a1 a2 a3 a4 a5 tv cv : Nat) (K : Heap) : Prop where
  v1 : aCells K ⟨a1, 0, none⟩ 1 = some [.slice (some ⟨tv, 0, none⟩) l.length cv]
  v2 : aCells K ⟨a2, 0, none⟩ 1 = some [.int .i64 crews]
  v3 : aCells K ⟨a3, 0, none⟩ 1 = some [.func (.func 30) #[] #[.pointer (some ⟨a1, 0, none⟩), .pointer (some ⟨a2, 0, none⟩), .pointer (some ⟨a3, 0, none⟩), .pointer (some ⟨a4, 0, none⟩), .pointer (some ⟨a5, 0, none⟩)]]
  s1 : Sl tkE K tv l
  l1 : a1 < K.length
  l2 : a2 < K.length
  l3 : a3 < K.length
  l4 : a4 < K.length
  l5 : a5 < K.length
  d1 : a1 ≠ a4 ∧ a1 ≠ a5
  d2 : a2 ≠ a4 ∧ a2 ≠ a5
  d3 : a3 ≠ a4 ∧ a3 ≠ a5
  dv : tv ≠ a4 ∧ tv ≠ a5
  d4 : a4 ≠ a5
theorem WEnv.kp {l : List Tk} {crews : Int} {a1 a2 a3 a4 a5 tv cv : Nat} {K G : Heap} (h : WEnv l crews a1 a2 a3 a4 a5 tv cv K) (k : Kp a4 a5 K G) : WEnv l crews a1 a2 a3 a4 a5 tv cv G :=
  ⟨k.cells h.l1 h.d1.1 h.d1.2 h.v1, k.cells h.l2 h.d2.1 h.d2.2 h.v2, k.cells h.l3 h.d3.1 h.d3.2 h.v3, k.sl h.s1 h.dv.1 h.dv.2, Nat.lt_of_lt_of_le h.l1 k.1, Nat.lt_of_lt_of_le h.l2 k.1, Nat.lt_of_lt_of_le h.l3 k.1, Nat.lt_of_lt_of_le h.l4 k.1, Nat.lt_of_lt_of_le h.l5 k.1, h.d1, h.d2, h.d3, h.dv, h.d4⟩
structure WCel (a4 a5 e5 : Nat) (b0 : Nat) (s : Bst) (K : Heap) : Prop where
  c4 : K.get a4 = some ⟨[.int .i64 s.2], true, 3, 1⟩
  c5 : ∃ g c, K.get a5 = some ⟨[.slice (some ⟨g, 0, none⟩) s.1.length c], true, e5, 1⟩ ∧ K.get g = some ⟨s.1.flatMap nmE, true, 3, 1⟩ ∧ g ≠ a4 ∧ g ≠ a5 ∧ b0 ≤ g
theorem WCel.kp {a4 a5 e5 b0 : Nat} {s : Bst} {K L : Heap} (h : WCel a4 a5 e5 b0 s K) : WCel a4 a5 e5 b0 s (K ++ L) := by
  obtain ⟨g, c, h1, h2, h3⟩ := h.c5
  exact ⟨Heap.get_of h.c4, g, c, Heap.get_of h1, Heap.get_of h2, h3⟩
def WOut (l : List Tk) (crews : Int) (a1 a2 a3 a4 a5 tv cv e5 b0 : Nat) (K : Heap) (s : Bst) (v : Value) (G : Heap) : Prop :=
  v = .tuple #[] ∧ WEnv l crews a1 a2 a3 a4 a5 tv cv G ∧ WCel a4 a5 e5 b0 s G ∧ VK K G ∧ Kp a4 a5 K G
theorem visitB_R (l : List Tk) (crews : Int) (a1 a2 a3 a4 a5 tv cv e5 b0 : Nat) :
    ∀ (f : Nat) (a : List Int) (s : Bst) (d u : Nat) (K : Heap), GoodB l crews a → l.length - a.length < f → WEnv l crews a1 a2 a3 a4 a5 tv cv K → WCel a4 a5 e5 b0 s K → K.get u = some ⟨a.flatMap nmE, true, 3, 1⟩ → u ≠ a4 → u ≠ a5 → b0 ≤ u → b0 ≤ K.length →
    AFunR Try.prog 30 [.slice (some ⟨u, 0, none⟩) a.length d, .pointer (some ⟨a1, 0, none⟩), .pointer (some ⟨a2, 0, none⟩), .pointer (some ⟨a3, 0, none⟩), .pointer (some ⟨a4, 0, none⟩), .pointer (some ⟨a5, 0, none⟩)] K (WOut l crews a1 a2 a3 a4 a5 tv cv e5 b0 K (visB l crews f a s))
  | 0, a, s, d, u, K, hg, hf, hE, hC, hu, hu8, hu9, hub, hkb => absurd hf (Nat.not_lt_zero _)
  | f + 1, a, s, d, u, K, hg, hf, hE, hC, hu, hu8, hu9, hub, hkb => by
    have hle := hg.g_len
    have hcr := hg.crews
    have hut := Heap.get_lt hu
    have hal : a.length ≤ 7 := by omega
    have hun : visB l crews (f + 1) a s = if a.length < l.length then vTo (visB l crews f) a s crews.toNat else if s.2 < 0 ∨ endN l crews a < s.2 then (a, endN l crews a) else s := rfl
    refine AFunR.of_body Try.func30 (by kernel_rfl) rfl (by kernel_rfl) (by simp [Try.ntmps30]) ?_
    have q1 := hE.v1
    have q2 := hE.v2
    have l1 := hE.l1
    have l2 := hE.l2
    have l3 := hE.l3
    have l4 := hE.l4
    have l5 := hE.l5
    have ltv := hE.s1.lt
    have hSu0 : Sl nmE K u a := ⟨_, [], hu, by simp⟩
    by_cases hl : a.length < l.length
    · have hl' : (a.length : Int) < (l.length : Int) := by omega
      rw [if_pos hl] at hun
      rw [hun]
      simp -dsimp -implicitDefEqProofs (disch := omega) [go_sem, -List.getD_eq_getElem?_getD, ite_yes, q1, q2, l1, l2, hl', hl]
      refine ALoop.intro (ι := Nat × Heap) (fun q => q.1 ≤ crews.toNat ∧ WEnv l crews a1 a2 a3 a4 a5 tv cv q.2 ∧ WCel a4 a5 e5 b0 (vTo (visB l crews f) a s q.1) q.2 ∧ VK K q.2 ∧ Kp a4 a5 K q.2)
        (fun q => [(0, .slice (some ⟨u, 0, none⟩) a.length d), (1, .pointer (some ⟨a1, 0, none⟩)), (2, .pointer (some ⟨a2, 0, none⟩)), (3, .pointer (some ⟨a3, 0, none⟩)), (4, .pointer (some ⟨a4, 0, none⟩)), (5, .pointer (some ⟨a5, 0, none⟩)), (14, .int .i64 crews), (15, .int .i64 q.1)]) (fun q => q.2) (fun q => crews.toNat - q.1) (0, K) ⟨by omega, hE, hC, VK.refl K, Kp.refl K⟩ ?_ ?_
      · exact weakS_same (by simp -dsimp -implicitDefEqProofs (disch := omega) [go_sem, -List.getD_eq_getElem?_getD, ite_yes, l1, l2, l3, l4, l5, hut])
      clear q1 q2 l1 l2 l3 l4 l5 ltv hE hC
      rintro ⟨k, G⟩ ⟨hk, hE, hC, hV, hP⟩
      simp only at hk hE hC hV hP ⊢
      have l1 := hE.l1
      have l2 := hE.l2
      have l3 := hE.l3
      have l4 := hE.l4
      have l5 := hE.l5
      have hGu := hP.get hu hu8 hu9
      have hutG := Heap.get_lt hGu
      have hSu : Sl nmE G u a := ⟨_, [], hGu, by simp⟩
      have hkG : b0 ≤ G.length := by have := hP.1; omega
      by_cases hlt : k < crews.toNat
      rotate_left
      · have hk2 : k = crews.toNat := by omega
        have hki : ¬ (k : Int) < crews := by omega
        rw [← hk2]
        simp -dsimp -implicitDefEqProofs (disch := omega) [go_sem, -List.getD_eq_getElem?_getD, ite_yes, hki]
        exact EndR.of (.tuple #[]) G ⟨rfl, hE, hC, hV, hP⟩ (fin_vk hV (by simp -dsimp -implicitDefEqProofs (disch := omega) [go_sem, -List.getD_eq_getElem?_getD, ite_yes]))
      have hki : (k : Int) < crews := by omega
      have hgood := hg.snoc hl hlt
      have e : vTo (visB l crews f) a s (k + 1) = visB l crews f (a ++ [(k : Int)]) (vTo (visB l crews f) a s k) := rfl
      have rE : ∀ (s' : Bst) (d' u' : Nat) (G' : Heap), WEnv l crews a1 a2 a3 a4 a5 tv cv G' → WCel a4 a5 e5 b0 s' G' → G'.get u' = some ⟨(a ++ [(k : Int)]).flatMap nmE, true, 3, 1⟩ → u' ≠ a4 → u' ≠ a5 → b0 ≤ u' → b0 ≤ G'.length →
          AFunR Try.prog 30 [.slice (some ⟨u', 0, none⟩) (a.length + 1) d', .pointer (some ⟨a1, 0, none⟩), .pointer (some ⟨a2, 0, none⟩), .pointer (some ⟨a3, 0, none⟩), .pointer (some ⟨a4, 0, none⟩), .pointer (some ⟨a5, 0, none⟩)] G' (WOut l crews a1 a2 a3 a4 a5 tv cv e5 b0 G' (visB l crews f (a ++ [(k : Int)]) s')) := by
        intro s' d' u' G' h2 h3 h4 h5 h6 h7 h8
        have := visitB_R l crews a1 a2 a3 a4 a5 tv cv e5 b0 f (a ++ [(k : Int)]) s' d' u' G' hgood (by rw [List.length_append, List.length_singleton]; omega) h2 h3 h4 h5 h6 h7 h8
        rwa [List.length_append, List.length_singleton] at this
      generalize hs' : vTo (visB l crews f) a s k = s' at *
      have q3 := hE.v3
      have eap : (a ++ [(k : Int)]).flatMap nmE = a.flatMap nmE ++ [.int .i64 (k : Int)] := by rw [List.flatMap_append]; rfl
      have hfa : (a.flatMap nmE).length = a.length := by rw [nmE_length]; omega
      simp -dsimp -implicitDefEqProofs (disch := omega) [go_sem, -List.getD_eq_getElem?_getD, ite_yes, hki]
      refine ADraw.any [] (by kernel_rfl) (SubH.nil) ?_
      refine AAny.takes (fuel := 5) (by kernel_rfl) (by kernel_rfl) [1, 3] (by kernel_rfl) (by kernel_rfl) ?_
      simp -dsimp -implicitDefEqProofs (disch := omega) [go_sem, -List.getD_eq_getElem?_getD, ite_yes, q3, l3, hutG, hfa]
      refine AAny.three 4 0 2 4 (by kernel_rfl) (by kernel_rfl) (by kernel_rfl) ?_ ?_ ?_
      · simp -dsimp -implicitDefEqProofs (disch := omega) [go_sem, -List.getD_eq_getElem?_getD, ite_yes, q3, l3, hutG, hfa]
        first | refine AAt.of (SubH.nil) ?_ | (refine ⟨?_, AAt.of (SubH.nil) ?_⟩; · omega)
        refine AAny.two 3 2 4 (by kernel_rfl) (by kernel_rfl) (by kernel_rfl) ?_ ?_
        · simp -dsimp -implicitDefEqProofs (disch := omega) [go_sem, -List.getD_eq_getElem?_getD, ite_yes, q3, l3, hutG, hfa]
          first | refine ACall.of (copyInts_A a (by omega) d _ u hSu) ?_ | refine ACall.of (copyInts_A a (by omega) d _ u hSu.app) ?_
          simp -dsimp -implicitDefEqProofs (disch := omega) [go_sem, -List.getD_eq_getElem?_getD, ite_yes, q3, l3, hutG, hfa]
          first | refine AAt.of (SubH.nil) ?_ | (refine ⟨?_, AAt.of (SubH.nil) ?_⟩; · omega)
          refine AAny.one 2 4 (by kernel_rfl) (by kernel_rfl) (by kernel_rfl) ?_
          simp -dsimp -implicitDefEqProofs (disch := omega) [go_sem, -List.getD_eq_getElem?_getD, ite_yes, q3, l3, hutG, hfa]
          first | refine AAt.of (SubH.nil) ?_ | (refine ⟨?_, AAt.of (SubH.nil) ?_⟩; · omega)
          refine AAny.one 1 5 (by kernel_rfl) (by kernel_rfl) (by kernel_rfl) ?_
          simp -dsimp -implicitDefEqProofs (disch := omega) [go_sem, -List.getD_eq_getElem?_getD, ite_yes, q3, l3, hutG, hfa]
          first | refine AAt.of (SubH.nil) ?_ | (refine ⟨?_, AAt.of (SubH.nil) ?_⟩; · omega)
          refine AAny.one 0 6 (by kernel_rfl) (by kernel_rfl) (by kernel_rfl) ?_
          simp -dsimp -implicitDefEqProofs (disch := omega) [go_sem, -List.getD_eq_getElem?_getD, ite_yes, q3, l3, hutG, hfa]
          refine ACall.via (rE s' _ (G.length + 2) _ (hE.kp Kp.app) hC.kp ((Heap.get_len_add _ _ 2).trans (by rw [eap]; rfl)) (by omega) (by omega) (by omega) (by simp; omega)) ?_
          rintro v G' ⟨rfl, hE', hC', hV', hP'⟩
          simp -dsimp -implicitDefEqProofs (disch := omega) [go_sem, -List.getD_eq_getElem?_getD, ite_yes, q3, l3, hutG, hfa]
          first | refine AAt.of (SubH.nil) ?_ | (refine ⟨?_, AAt.of (SubH.nil) ?_⟩; · omega)
          refine AAny.done (by kernel_rfl) ?_
          simp -dsimp -implicitDefEqProofs (disch := omega) [go_sem, -List.getD_eq_getElem?_getD, ite_yes, q3, l3, hutG, hfa]
          have k1 := hE'.l1
          have k2 := hE'.l2
          have k3 := hE'.l3
          have k4 := hE'.l4
          have k5 := hE'.l5
          have kP := (hP.trans Kp.app).trans hP'
          have ku : u < G'.length := Nat.lt_of_lt_of_le hut kP.1
          have kV := (hV.trans (VK.app (flat3 (by first | exact trivial | exact (rfl : ([Value.int .i64 (k : Int)] : List Value).all flat = true) | exact nmE_flat _ | exact eap ▸ nmE_flat _) (by first | exact trivial | exact (rfl : ([Value.int .i64 (k : Int)] : List Value).all flat = true) | exact nmE_flat _ | exact eap ▸ nmE_flat _) (by first | exact trivial | exact (rfl : ([Value.int .i64 (k : Int)] : List Value).all flat = true) | exact nmE_flat _ | exact eap ▸ nmE_flat _)))).trans hV'
          exact LoopEnd.of (k + 1, G') ⟨by omega, hE', by rw [e]; exact hC', kV, kP⟩ (by omega) (weakS_vk kV (by simp -dsimp -implicitDefEqProofs (disch := omega) [go_sem, -List.getD_eq_getElem?_getD, ite_yes, k1, k2, k3, k4, k5, ku]))
        · simp -dsimp -implicitDefEqProofs (disch := omega) [go_sem, -List.getD_eq_getElem?_getD, ite_yes, q3, l3, hutG, hfa]
          first | refine AAt.of (SubH.nil) ?_ | (refine ⟨?_, AAt.of (SubH.nil) ?_⟩; · omega)
          refine AAny.one 2 2 (by kernel_rfl) (by kernel_rfl) (by kernel_rfl) ?_
          simp -dsimp -implicitDefEqProofs (disch := omega) [go_sem, -List.getD_eq_getElem?_getD, ite_yes, q3, l3, hutG, hfa]
          first | refine ACall.of (copyInts_A a (by omega) d _ u hSu) ?_ | refine ACall.of (copyInts_A a (by omega) d _ u hSu.app) ?_
          simp -dsimp -implicitDefEqProofs (disch := omega) [go_sem, -List.getD_eq_getElem?_getD, ite_yes, q3, l3, hutG, hfa]
          first | refine AAt.of (SubH.nil) ?_ | (refine ⟨?_, AAt.of (SubH.nil) ?_⟩; · omega)
          refine AAny.one 1 5 (by kernel_rfl) (by kernel_rfl) (by kernel_rfl) ?_
          simp -dsimp -implicitDefEqProofs (disch := omega) [go_sem, -List.getD_eq_getElem?_getD, ite_yes, q3, l3, hutG, hfa]
          first | refine AAt.of (SubH.nil) ?_ | (refine ⟨?_, AAt.of (SubH.nil) ?_⟩; · omega)
          refine AAny.one 0 6 (by kernel_rfl) (by kernel_rfl) (by kernel_rfl) ?_
          simp -dsimp -implicitDefEqProofs (disch := omega) [go_sem, -List.getD_eq_getElem?_getD, ite_yes, q3, l3, hutG, hfa]
          refine ACall.via (rE s' _ (G.length + 2) _ (hE.kp Kp.app) hC.kp ((Heap.get_len_add _ _ 2).trans (by rw [eap]; rfl)) (by omega) (by omega) (by omega) (by simp; omega)) ?_
          rintro v G' ⟨rfl, hE', hC', hV', hP'⟩
          simp -dsimp -implicitDefEqProofs (disch := omega) [go_sem, -List.getD_eq_getElem?_getD, ite_yes, q3, l3, hutG, hfa]
          first | refine AAt.of (SubH.nil) ?_ | (refine ⟨?_, AAt.of (SubH.nil) ?_⟩; · omega)
          refine AAny.done (by kernel_rfl) ?_
          simp -dsimp -implicitDefEqProofs (disch := omega) [go_sem, -List.getD_eq_getElem?_getD, ite_yes, q3, l3, hutG, hfa]
          have k1 := hE'.l1
          have k2 := hE'.l2
          have k3 := hE'.l3
          have k4 := hE'.l4
          have k5 := hE'.l5
          have kP := (hP.trans Kp.app).trans hP'
          have ku : u < G'.length := Nat.lt_of_lt_of_le hut kP.1
          have kV := (hV.trans (VK.app (flat3 (by first | exact trivial | exact (rfl : ([Value.int .i64 (k : Int)] : List Value).all flat = true) | exact nmE_flat _ | exact eap ▸ nmE_flat _) (by first | exact trivial | exact (rfl : ([Value.int .i64 (k : Int)] : List Value).all flat = true) | exact nmE_flat _ | exact eap ▸ nmE_flat _) (by first | exact trivial | exact (rfl : ([Value.int .i64 (k : Int)] : List Value).all flat = true) | exact nmE_flat _ | exact eap ▸ nmE_flat _)))).trans hV'
          exact LoopEnd.of (k + 1, G') ⟨by omega, hE', by rw [e]; exact hC', kV, kP⟩ (by omega) (weakS_vk kV (by simp -dsimp -implicitDefEqProofs (disch := omega) [go_sem, -List.getD_eq_getElem?_getD, ite_yes, k1, k2, k3, k4, k5, ku]))
      · simp -dsimp -implicitDefEqProofs (disch := omega) [go_sem, -List.getD_eq_getElem?_getD, ite_yes, q3, l3, hutG, hfa]
        first | refine ACall.of (copyInts_A a (by omega) d _ u hSu) ?_ | refine ACall.of (copyInts_A a (by omega) d _ u hSu.app) ?_
        simp -dsimp -implicitDefEqProofs (disch := omega) [go_sem, -List.getD_eq_getElem?_getD, ite_yes, q3, l3, hutG, hfa]
        first | refine AAt.of (SubH.nil) ?_ | (refine ⟨?_, AAt.of (SubH.nil) ?_⟩; · omega)
        refine AAny.two 3 0 4 (by kernel_rfl) (by kernel_rfl) (by kernel_rfl) ?_ ?_
        · simp -dsimp -implicitDefEqProofs (disch := omega) [go_sem, -List.getD_eq_getElem?_getD, ite_yes, q3, l3, hutG, hfa]
          first | refine AAt.of (SubH.nil) ?_ | (refine ⟨?_, AAt.of (SubH.nil) ?_⟩; · omega)
          refine AAny.one 2 4 (by kernel_rfl) (by kernel_rfl) (by kernel_rfl) ?_
          simp -dsimp -implicitDefEqProofs (disch := omega) [go_sem, -List.getD_eq_getElem?_getD, ite_yes, q3, l3, hutG, hfa]
          first | refine AAt.of (SubH.nil) ?_ | (refine ⟨?_, AAt.of (SubH.nil) ?_⟩; · omega)
          refine AAny.one 1 5 (by kernel_rfl) (by kernel_rfl) (by kernel_rfl) ?_
          simp -dsimp -implicitDefEqProofs (disch := omega) [go_sem, -List.getD_eq_getElem?_getD, ite_yes, q3, l3, hutG, hfa]
          first | refine AAt.of (SubH.nil) ?_ | (refine ⟨?_, AAt.of (SubH.nil) ?_⟩; · omega)
          refine AAny.one 0 6 (by kernel_rfl) (by kernel_rfl) (by kernel_rfl) ?_
          simp -dsimp -implicitDefEqProofs (disch := omega) [go_sem, -List.getD_eq_getElem?_getD, ite_yes, q3, l3, hutG, hfa]
          refine ACall.via (rE s' _ (G.length + 2) _ (hE.kp Kp.app) hC.kp ((Heap.get_len_add _ _ 2).trans (by rw [eap]; rfl)) (by omega) (by omega) (by omega) (by simp; omega)) ?_
          rintro v G' ⟨rfl, hE', hC', hV', hP'⟩
          simp -dsimp -implicitDefEqProofs (disch := omega) [go_sem, -List.getD_eq_getElem?_getD, ite_yes, q3, l3, hutG, hfa]
          first | refine AAt.of (SubH.nil) ?_ | (refine ⟨?_, AAt.of (SubH.nil) ?_⟩; · omega)
          refine AAny.done (by kernel_rfl) ?_
          simp -dsimp -implicitDefEqProofs (disch := omega) [go_sem, -List.getD_eq_getElem?_getD, ite_yes, q3, l3, hutG, hfa]
          have k1 := hE'.l1
          have k2 := hE'.l2
          have k3 := hE'.l3
          have k4 := hE'.l4
          have k5 := hE'.l5
          have kP := (hP.trans Kp.app).trans hP'
          have ku : u < G'.length := Nat.lt_of_lt_of_le hut kP.1
          have kV := (hV.trans (VK.app (flat3 (by first | exact trivial | exact (rfl : ([Value.int .i64 (k : Int)] : List Value).all flat = true) | exact nmE_flat _ | exact eap ▸ nmE_flat _) (by first | exact trivial | exact (rfl : ([Value.int .i64 (k : Int)] : List Value).all flat = true) | exact nmE_flat _ | exact eap ▸ nmE_flat _) (by first | exact trivial | exact (rfl : ([Value.int .i64 (k : Int)] : List Value).all flat = true) | exact nmE_flat _ | exact eap ▸ nmE_flat _)))).trans hV'
          exact LoopEnd.of (k + 1, G') ⟨by omega, hE', by rw [e]; exact hC', kV, kP⟩ (by omega) (weakS_vk kV (by simp -dsimp -implicitDefEqProofs (disch := omega) [go_sem, -List.getD_eq_getElem?_getD, ite_yes, k1, k2, k3, k4, k5, ku]))
        · simp -dsimp -implicitDefEqProofs (disch := omega) [go_sem, -List.getD_eq_getElem?_getD, ite_yes, q3, l3, hutG, hfa]
          first | refine AAt.of (SubH.nil) ?_ | (refine ⟨?_, AAt.of (SubH.nil) ?_⟩; · omega)
          refine AAny.two 2 0 5 (by kernel_rfl) (by kernel_rfl) (by kernel_rfl) ?_ ?_
          · simp -dsimp -implicitDefEqProofs (disch := omega) [go_sem, -List.getD_eq_getElem?_getD, ite_yes, q3, l3, hutG, hfa]
            first | refine AAt.of (SubH.nil) ?_ | (refine ⟨?_, AAt.of (SubH.nil) ?_⟩; · omega)
            refine AAny.one 1 5 (by kernel_rfl) (by kernel_rfl) (by kernel_rfl) ?_
            simp -dsimp -implicitDefEqProofs (disch := omega) [go_sem, -List.getD_eq_getElem?_getD, ite_yes, q3, l3, hutG, hfa]
            first | refine AAt.of (SubH.nil) ?_ | (refine ⟨?_, AAt.of (SubH.nil) ?_⟩; · omega)
            refine AAny.one 0 6 (by kernel_rfl) (by kernel_rfl) (by kernel_rfl) ?_
            simp -dsimp -implicitDefEqProofs (disch := omega) [go_sem, -List.getD_eq_getElem?_getD, ite_yes, q3, l3, hutG, hfa]
            refine ACall.via (rE s' _ (G.length + 2) _ (hE.kp Kp.app) hC.kp ((Heap.get_len_add _ _ 2).trans (by rw [eap]; rfl)) (by omega) (by omega) (by omega) (by simp; omega)) ?_
            rintro v G' ⟨rfl, hE', hC', hV', hP'⟩
            simp -dsimp -implicitDefEqProofs (disch := omega) [go_sem, -List.getD_eq_getElem?_getD, ite_yes, q3, l3, hutG, hfa]
            first | refine AAt.of (SubH.nil) ?_ | (refine ⟨?_, AAt.of (SubH.nil) ?_⟩; · omega)
            refine AAny.done (by kernel_rfl) ?_
            simp -dsimp -implicitDefEqProofs (disch := omega) [go_sem, -List.getD_eq_getElem?_getD, ite_yes, q3, l3, hutG, hfa]
            have k1 := hE'.l1
            have k2 := hE'.l2
            have k3 := hE'.l3
            have k4 := hE'.l4
            have k5 := hE'.l5
            have kP := (hP.trans Kp.app).trans hP'
            have ku : u < G'.length := Nat.lt_of_lt_of_le hut kP.1
            have kV := (hV.trans (VK.app (flat3 (by first | exact trivial | exact (rfl : ([Value.int .i64 (k : Int)] : List Value).all flat = true) | exact nmE_flat _ | exact eap ▸ nmE_flat _) (by first | exact trivial | exact (rfl : ([Value.int .i64 (k : Int)] : List Value).all flat = true) | exact nmE_flat _ | exact eap ▸ nmE_flat _) (by first | exact trivial | exact (rfl : ([Value.int .i64 (k : Int)] : List Value).all flat = true) | exact nmE_flat _ | exact eap ▸ nmE_flat _)))).trans hV'
            exact LoopEnd.of (k + 1, G') ⟨by omega, hE', by rw [e]; exact hC', kV, kP⟩ (by omega) (weakS_vk kV (by simp -dsimp -implicitDefEqProofs (disch := omega) [go_sem, -List.getD_eq_getElem?_getD, ite_yes, k1, k2, k3, k4, k5, ku]))
          · simp -dsimp -implicitDefEqProofs (disch := omega) [go_sem, -List.getD_eq_getElem?_getD, ite_yes, q3, l3, hutG, hfa]
            first | refine AAt.of (SubH.nil) ?_ | (refine ⟨?_, AAt.of (SubH.nil) ?_⟩; · omega)
            refine AAny.one 1 0 (by kernel_rfl) (by kernel_rfl) (by kernel_rfl) ?_
            simp -dsimp -implicitDefEqProofs (disch := omega) [go_sem, -List.getD_eq_getElem?_getD, ite_yes, q3, l3, hutG, hfa]
            first | refine AAt.of (SubH.nil) ?_ | (refine ⟨?_, AAt.of (SubH.nil) ?_⟩; · omega)
            refine AAny.one 0 6 (by kernel_rfl) (by kernel_rfl) (by kernel_rfl) ?_
            simp -dsimp -implicitDefEqProofs (disch := omega) [go_sem, -List.getD_eq_getElem?_getD, ite_yes, q3, l3, hutG, hfa]
            refine ACall.via (rE s' _ (G.length + 2) _ (hE.kp Kp.app) hC.kp ((Heap.get_len_add _ _ 2).trans (by rw [eap]; rfl)) (by omega) (by omega) (by omega) (by simp; omega)) ?_
            rintro v G' ⟨rfl, hE', hC', hV', hP'⟩
            simp -dsimp -implicitDefEqProofs (disch := omega) [go_sem, -List.getD_eq_getElem?_getD, ite_yes, q3, l3, hutG, hfa]
            first | refine AAt.of (SubH.nil) ?_ | (refine ⟨?_, AAt.of (SubH.nil) ?_⟩; · omega)
            refine AAny.done (by kernel_rfl) ?_
            simp -dsimp -implicitDefEqProofs (disch := omega) [go_sem, -List.getD_eq_getElem?_getD, ite_yes, q3, l3, hutG, hfa]
            have k1 := hE'.l1
            have k2 := hE'.l2
            have k3 := hE'.l3
            have k4 := hE'.l4
            have k5 := hE'.l5
            have kP := (hP.trans Kp.app).trans hP'
            have ku : u < G'.length := Nat.lt_of_lt_of_le hut kP.1
            have kV := (hV.trans (VK.app (flat3 (by first | exact trivial | exact (rfl : ([Value.int .i64 (k : Int)] : List Value).all flat = true) | exact nmE_flat _ | exact eap ▸ nmE_flat _) (by first | exact trivial | exact (rfl : ([Value.int .i64 (k : Int)] : List Value).all flat = true) | exact nmE_flat _ | exact eap ▸ nmE_flat _) (by first | exact trivial | exact (rfl : ([Value.int .i64 (k : Int)] : List Value).all flat = true) | exact nmE_flat _ | exact eap ▸ nmE_flat _)))).trans hV'
            exact LoopEnd.of (k + 1, G') ⟨by omega, hE', by rw [e]; exact hC', kV, kP⟩ (by omega) (weakS_vk kV (by simp -dsimp -implicitDefEqProofs (disch := omega) [go_sem, -List.getD_eq_getElem?_getD, ite_yes, k1, k2, k3, k4, k5, ku]))
      · simp -dsimp -implicitDefEqProofs (disch := omega) [go_sem, -List.getD_eq_getElem?_getD, ite_yes, q3, l3, hutG, hfa]
        first | refine AAt.of (SubH.nil) ?_ | (refine ⟨?_, AAt.of (SubH.nil) ?_⟩; · omega)
        refine AAny.two 3 0 2 (by kernel_rfl) (by kernel_rfl) (by kernel_rfl) ?_ ?_
        · simp -dsimp -implicitDefEqProofs (disch := omega) [go_sem, -List.getD_eq_getElem?_getD, ite_yes, q3, l3, hutG, hfa]
          first | refine AAt.of (SubH.nil) ?_ | (refine ⟨?_, AAt.of (SubH.nil) ?_⟩; · omega)
          refine AAny.one 2 2 (by kernel_rfl) (by kernel_rfl) (by kernel_rfl) ?_
          simp -dsimp -implicitDefEqProofs (disch := omega) [go_sem, -List.getD_eq_getElem?_getD, ite_yes, q3, l3, hutG, hfa]
          first | refine ACall.of (copyInts_A a (by omega) d _ u hSu) ?_ | refine ACall.of (copyInts_A a (by omega) d _ u hSu.app) ?_
          simp -dsimp -implicitDefEqProofs (disch := omega) [go_sem, -List.getD_eq_getElem?_getD, ite_yes, q3, l3, hutG, hfa]
          first | refine AAt.of (SubH.nil) ?_ | (refine ⟨?_, AAt.of (SubH.nil) ?_⟩; · omega)
          refine AAny.one 1 5 (by kernel_rfl) (by kernel_rfl) (by kernel_rfl) ?_
          simp -dsimp -implicitDefEqProofs (disch := omega) [go_sem, -List.getD_eq_getElem?_getD, ite_yes, q3, l3, hutG, hfa]
          first | refine AAt.of (SubH.nil) ?_ | (refine ⟨?_, AAt.of (SubH.nil) ?_⟩; · omega)
          refine AAny.one 0 6 (by kernel_rfl) (by kernel_rfl) (by kernel_rfl) ?_
          simp -dsimp -implicitDefEqProofs (disch := omega) [go_sem, -List.getD_eq_getElem?_getD, ite_yes, q3, l3, hutG, hfa]
          refine ACall.via (rE s' _ (G.length + 2) _ (hE.kp Kp.app) hC.kp ((Heap.get_len_add _ _ 2).trans (by rw [eap]; rfl)) (by omega) (by omega) (by omega) (by simp; omega)) ?_
          rintro v G' ⟨rfl, hE', hC', hV', hP'⟩
          simp -dsimp -implicitDefEqProofs (disch := omega) [go_sem, -List.getD_eq_getElem?_getD, ite_yes, q3, l3, hutG, hfa]
          first | refine AAt.of (SubH.nil) ?_ | (refine ⟨?_, AAt.of (SubH.nil) ?_⟩; · omega)
          refine AAny.done (by kernel_rfl) ?_
          simp -dsimp -implicitDefEqProofs (disch := omega) [go_sem, -List.getD_eq_getElem?_getD, ite_yes, q3, l3, hutG, hfa]
          have k1 := hE'.l1
          have k2 := hE'.l2
          have k3 := hE'.l3
          have k4 := hE'.l4
          have k5 := hE'.l5
          have kP := (hP.trans Kp.app).trans hP'
          have ku : u < G'.length := Nat.lt_of_lt_of_le hut kP.1
          have kV := (hV.trans (VK.app (flat3 (by first | exact trivial | exact (rfl : ([Value.int .i64 (k : Int)] : List Value).all flat = true) | exact nmE_flat _ | exact eap ▸ nmE_flat _) (by first | exact trivial | exact (rfl : ([Value.int .i64 (k : Int)] : List Value).all flat = true) | exact nmE_flat _ | exact eap ▸ nmE_flat _) (by first | exact trivial | exact (rfl : ([Value.int .i64 (k : Int)] : List Value).all flat = true) | exact nmE_flat _ | exact eap ▸ nmE_flat _)))).trans hV'
          exact LoopEnd.of (k + 1, G') ⟨by omega, hE', by rw [e]; exact hC', kV, kP⟩ (by omega) (weakS_vk kV (by simp -dsimp -implicitDefEqProofs (disch := omega) [go_sem, -List.getD_eq_getElem?_getD, ite_yes, k1, k2, k3, k4, k5, ku]))
        · simp -dsimp -implicitDefEqProofs (disch := omega) [go_sem, -List.getD_eq_getElem?_getD, ite_yes, q3, l3, hutG, hfa]
          first | refine ACall.of (copyInts_A a (by omega) d _ u hSu) ?_ | refine ACall.of (copyInts_A a (by omega) d _ u hSu.app) ?_
          simp -dsimp -implicitDefEqProofs (disch := omega) [go_sem, -List.getD_eq_getElem?_getD, ite_yes, q3, l3, hutG, hfa]
          first | refine AAt.of (SubH.nil) ?_ | (refine ⟨?_, AAt.of (SubH.nil) ?_⟩; · omega)
          refine AAny.two 2 0 5 (by kernel_rfl) (by kernel_rfl) (by kernel_rfl) ?_ ?_
          · simp -dsimp -implicitDefEqProofs (disch := omega) [go_sem, -List.getD_eq_getElem?_getD, ite_yes, q3, l3, hutG, hfa]
            first | refine AAt.of (SubH.nil) ?_ | (refine ⟨?_, AAt.of (SubH.nil) ?_⟩; · omega)
            refine AAny.one 1 5 (by kernel_rfl) (by kernel_rfl) (by kernel_rfl) ?_
            simp -dsimp -implicitDefEqProofs (disch := omega) [go_sem, -List.getD_eq_getElem?_getD, ite_yes, q3, l3, hutG, hfa]
            first | refine AAt.of (SubH.nil) ?_ | (refine ⟨?_, AAt.of (SubH.nil) ?_⟩; · omega)
            refine AAny.one 0 6 (by kernel_rfl) (by kernel_rfl) (by kernel_rfl) ?_
            simp -dsimp -implicitDefEqProofs (disch := omega) [go_sem, -List.getD_eq_getElem?_getD, ite_yes, q3, l3, hutG, hfa]
            refine ACall.via (rE s' _ (G.length + 2) _ (hE.kp Kp.app) hC.kp ((Heap.get_len_add _ _ 2).trans (by rw [eap]; rfl)) (by omega) (by omega) (by omega) (by simp; omega)) ?_
            rintro v G' ⟨rfl, hE', hC', hV', hP'⟩
            simp -dsimp -implicitDefEqProofs (disch := omega) [go_sem, -List.getD_eq_getElem?_getD, ite_yes, q3, l3, hutG, hfa]
            first | refine AAt.of (SubH.nil) ?_ | (refine ⟨?_, AAt.of (SubH.nil) ?_⟩; · omega)
            refine AAny.done (by kernel_rfl) ?_
            simp -dsimp -implicitDefEqProofs (disch := omega) [go_sem, -List.getD_eq_getElem?_getD, ite_yes, q3, l3, hutG, hfa]
            have k1 := hE'.l1
            have k2 := hE'.l2
            have k3 := hE'.l3
            have k4 := hE'.l4
            have k5 := hE'.l5
            have kP := (hP.trans Kp.app).trans hP'
            have ku : u < G'.length := Nat.lt_of_lt_of_le hut kP.1
            have kV := (hV.trans (VK.app (flat3 (by first | exact trivial | exact (rfl : ([Value.int .i64 (k : Int)] : List Value).all flat = true) | exact nmE_flat _ | exact eap ▸ nmE_flat _) (by first | exact trivial | exact (rfl : ([Value.int .i64 (k : Int)] : List Value).all flat = true) | exact nmE_flat _ | exact eap ▸ nmE_flat _) (by first | exact trivial | exact (rfl : ([Value.int .i64 (k : Int)] : List Value).all flat = true) | exact nmE_flat _ | exact eap ▸ nmE_flat _)))).trans hV'
            exact LoopEnd.of (k + 1, G') ⟨by omega, hE', by rw [e]; exact hC', kV, kP⟩ (by omega) (weakS_vk kV (by simp -dsimp -implicitDefEqProofs (disch := omega) [go_sem, -List.getD_eq_getElem?_getD, ite_yes, k1, k2, k3, k4, k5, ku]))
          · simp -dsimp -implicitDefEqProofs (disch := omega) [go_sem, -List.getD_eq_getElem?_getD, ite_yes, q3, l3, hutG, hfa]
            first | refine AAt.of (SubH.nil) ?_ | (refine ⟨?_, AAt.of (SubH.nil) ?_⟩; · omega)
            refine AAny.one 1 0 (by kernel_rfl) (by kernel_rfl) (by kernel_rfl) ?_
            simp -dsimp -implicitDefEqProofs (disch := omega) [go_sem, -List.getD_eq_getElem?_getD, ite_yes, q3, l3, hutG, hfa]
            first | refine AAt.of (SubH.nil) ?_ | (refine ⟨?_, AAt.of (SubH.nil) ?_⟩; · omega)
            refine AAny.one 0 6 (by kernel_rfl) (by kernel_rfl) (by kernel_rfl) ?_
            simp -dsimp -implicitDefEqProofs (disch := omega) [go_sem, -List.getD_eq_getElem?_getD, ite_yes, q3, l3, hutG, hfa]
            refine ACall.via (rE s' _ (G.length + 2) _ (hE.kp Kp.app) hC.kp ((Heap.get_len_add _ _ 2).trans (by rw [eap]; rfl)) (by omega) (by omega) (by omega) (by simp; omega)) ?_
            rintro v G' ⟨rfl, hE', hC', hV', hP'⟩
            simp -dsimp -implicitDefEqProofs (disch := omega) [go_sem, -List.getD_eq_getElem?_getD, ite_yes, q3, l3, hutG, hfa]
            first | refine AAt.of (SubH.nil) ?_ | (refine ⟨?_, AAt.of (SubH.nil) ?_⟩; · omega)
            refine AAny.done (by kernel_rfl) ?_
            simp -dsimp -implicitDefEqProofs (disch := omega) [go_sem, -List.getD_eq_getElem?_getD, ite_yes, q3, l3, hutG, hfa]
            have k1 := hE'.l1
            have k2 := hE'.l2
            have k3 := hE'.l3
            have k4 := hE'.l4
            have k5 := hE'.l5
            have kP := (hP.trans Kp.app).trans hP'
            have ku : u < G'.length := Nat.lt_of_lt_of_le hut kP.1
            have kV := (hV.trans (VK.app (flat3 (by first | exact trivial | exact (rfl : ([Value.int .i64 (k : Int)] : List Value).all flat = true) | exact nmE_flat _ | exact eap ▸ nmE_flat _) (by first | exact trivial | exact (rfl : ([Value.int .i64 (k : Int)] : List Value).all flat = true) | exact nmE_flat _ | exact eap ▸ nmE_flat _) (by first | exact trivial | exact (rfl : ([Value.int .i64 (k : Int)] : List Value).all flat = true) | exact nmE_flat _ | exact eap ▸ nmE_flat _)))).trans hV'
            exact LoopEnd.of (k + 1, G') ⟨by omega, hE', by rw [e]; exact hC', kV, kP⟩ (by omega) (weakS_vk kV (by simp -dsimp -implicitDefEqProofs (disch := omega) [go_sem, -List.getD_eq_getElem?_getD, ite_yes, k1, k2, k3, k4, k5, ku]))
    · have hll : a.length = l.length := by omega
      have hl' : ¬ (a.length : Int) < (l.length : Int) := by omega
      rw [if_neg hl] at hun
      obtain ⟨res, hres⟩ : ∃ r, r = if s.2 < 0 ∨ endN l crews a < s.2 then (a, endN l crews a) else s := ⟨_, rfl⟩
      rw [hun, ← hres]
      have hAt := hg.at hll
      simp -dsimp -implicitDefEqProofs (disch := omega) [go_sem, -List.getD_eq_getElem?_getD, ite_yes, q1, q2, l1, l2, hl', hl]
      refine ACall.of (endOf_A l crews a hAt cv d _ tv u hE.s1 hSu0) ?_
      have c4 := hC.c4
      have q4 : aCells K ⟨a4, 0, none⟩ 1 = some [.int .i64 s.2] := by rw [aCells_eq, c4]; rfl
      obtain ⟨gb, cb, c5, hcb⟩ := hC.c5
      have hne := hE.d4
      have c4' : ∀ x, Heap.get (K.set a5 x) a4 = some ⟨[.int .i64 s.2], true, 3, 1⟩ := fun x => by rw [Heap.get_set, if_neg (fun e => hne e.symm)]; exact c4
      have hfin : s.2 < 0 ∨ endN l crews a < s.2 → EndR K (WOut l crews a1 a2 a3 a4 a5 tv cv e5 b0 K res) (.tuple #[]) ((K.set a5 (some ⟨[.slice (some ⟨u, 0, none⟩) a.length d], true, e5, 1⟩)).set a4 (some ⟨[.int .i64 (endN l crews a)], true, 3, 1⟩)) := by
        intro h
        have kp2 : Kp a4 a5 K ((K.set a5 (some ⟨[.slice (some ⟨u, 0, none⟩) a.length d], true, e5, 1⟩)).set a4 (some ⟨[.int .i64 (endN l crews a)], true, 3, 1⟩)) := Kp.set2.trans Kp.set1
        have vk2 : VK K ((K.set a5 (some ⟨[.slice (some ⟨u, 0, none⟩) a.length d], true, e5, 1⟩)).set a4 (some ⟨[.int .i64 (endN l crews a)], true, 3, 1⟩)) :=
          (VK.set (b := ⟨[.slice (some ⟨u, 0, none⟩) a.length d], true, e5, 1⟩) l5 ⟨⟨hut, .inl ⟨u, d, by simp [sg, hut], rfl⟩⟩, trivial⟩).trans (VK.set (b := ⟨[.int .i64 (endN l crews a)], true, 3, 1⟩) (by simpa using l4) ⟨rfl, trivial⟩)
        have hgu : Heap.get ((K.set a5 (some ⟨[.slice (some ⟨u, 0, none⟩) a.length d], true, e5, 1⟩)).set a4 (some ⟨[.int .i64 (endN l crews a)], true, 3, 1⟩)) u = some ⟨a.flatMap nmE, true, 3, 1⟩ := kp2.get hu hu8 hu9
        refine EndR.of (.tuple #[]) _ ⟨rfl, hE.kp kp2, ?_, vk2, kp2⟩ (fin_vk vk2 (by simp -dsimp -implicitDefEqProofs (disch := omega) [go_sem, -List.getD_eq_getElem?_getD, ite_yes]))
        rw [hres, if_pos h]
        refine ⟨by rw [Heap.get_set, if_pos rfl, if_pos (by simpa using l4)], u, d, ?_, hgu, hu8, hu9, hub⟩
        rw [Heap.get_set, if_neg hne, Heap.get_set, if_pos rfl, if_pos l5]
      have hfin2 : ¬ (s.2 < 0 ∨ endN l crews a < s.2) → EndR K (WOut l crews a1 a2 a3 a4 a5 tv cv e5 b0 K res) (.tuple #[]) K := by
        intro h
        refine EndR.of (.tuple #[]) _ ⟨rfl, hE, ?_, VK.refl K, Kp.refl K⟩ (fin_vk (VK.refl K) (by simp -dsimp -implicitDefEqProofs (disch := omega) [go_sem, -List.getD_eq_getElem?_getD, ite_yes]))
        rw [hres, if_neg h]
        exact hC
      by_cases h5 : s.2 < 0
      · simp -dsimp -implicitDefEqProofs (disch := omega) [go_sem, -List.getD_eq_getElem?_getD, ite_yes, q4, l4, h5, c5, c4', l5]
        exact hfin (.inl h5)
      · by_cases h6 : endN l crews a < s.2
        · simp -dsimp -implicitDefEqProofs (disch := omega) [go_sem, -List.getD_eq_getElem?_getD, ite_yes, q4, l4, h5, h6, c5, c4', l5]
          exact hfin (.inr h6)
        · simp -dsimp -implicitDefEqProofs (disch := omega) [go_sem, -List.getD_eq_getElem?_getD, ite_yes, q4, l4, h5, h6]
          exact hfin2 (by omega)
end Go.Proofs.Ythajahknincjjaa
