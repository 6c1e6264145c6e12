/- IsGentle: both sides. -/
import Derived.Test.YtaehphcaiabdmaaOrder
namespace Go.Proofs.Ytaehphcaiabdmaa
open Go.Am
set_option linter.unusedVariables false
set_option linter.unusedSimpArgs false
set_option maxRecDepth 100000
set_option maxHeartbeats 4000000

def vlIs (id : Int) (v : Vl) : Bool := decide (v.1 = id)
/-- the valve with an Id -/
def vlAt (l : List Vl) (id : Int) : Vl := l.getD (ixOf (vlIs id) l).toNat vl0
/-- whether water reaches the pipe or the node of a valve -/
def tchB (ps : List Pp) (R : List Bool) (v : Vl) : Bool := R.getD v.2.2.1.toNat false || R.getD (9 + (pipeIx ps v.2.1).toNat) false
theorem vl_ok {n : Int} {ps : List Pp} {l : List Vl} (h : goodV n ps l = true) {i : Nat} (hi : i < l.length) : (∃ q : Nat, pipeIx ps (l.getD i vl0).2.1 = (q : Int) ∧ q < ps.length) ∧ 1 ≤ (l.getD i vl0).2.2.1 ∧ (l.getD i vl0).2.2.1 ≤ n := by
  have hN := (goodV_net h).1
  unfold goodV at h
  simp only [Bool.and_eq_true, decide_eq_true_eq] at h
  have := h.2.2 i hi
  unfold oneV at this
  simp only [Bool.and_eq_true] at this
  have ho := this.2.2.1
  unfold onP at ho
  simp only [Bool.and_eq_true, Bool.or_eq_true, decide_eq_true_eq] at ho
  rcases ix_cases pp0 (pipeIs (l.getD i vl0).2.1) ps with ⟨h1, _⟩ | ⟨q, h1, h2, _⟩
  · have : pipeIx ps (l.getD i vl0).2.1 = -1 := h1
    omega
  · have hp : pipeIx ps (l.getD i vl0).2.1 = (q : Int) := h1
    rw [hp, Int.toNat_natCast] at ho
    have := hN.f_end q h2
    refine ⟨⟨q, hp, h2⟩, ?_⟩
    rcases ho.2 with e | e <;> omega
theorem shutTo_mem (l : List Vl) : ∀ (k : Nat), ∀ x ∈ shutTo l k, ∃ i, i < k ∧ x = (l.getD i vl0).1
  | 0, x, h => absurd h (by simp [shutTo])
  | k + 1, x, h => by
    rw [shutTo] at h
    split at h
    · rcases List.mem_append.1 h with h | h
      · obtain ⟨i, hi, e⟩ := shutTo_mem l k x h; exact ⟨i, by omega, e⟩
      · exact ⟨k, by omega, List.mem_singleton.1 h⟩
    · obtain ⟨i, hi, e⟩ := shutTo_mem l k x h; exact ⟨i, by omega, e⟩
theorem vlIs_ix {l : List Vl} {id : Int} (h : hasI (shutL l) id = true) : ∃ q : Nat, ixOf (vlIs id) l = (q : Int) ∧ q < l.length ∧ vlAt l id = l.getD q vl0 := by
  obtain ⟨i, hi, e⟩ := shutTo_mem l l.length id (of_decide_eq_true h)
  rcases ix_cases vl0 (vlIs id) l with ⟨_, h2⟩ | ⟨q, h1, h2, _⟩
  · have := of_decide_eq_false (h2 i hi)
    exact absurd e.symm this
  · exact ⟨q, h1, h2, by rw [vlAt, h1, Int.toNat_natCast]⟩
theorem valveIndex1_A (v : Vl) (id : Int) (H : Heap) (u : Nat) (hl : u < H.length) (cu : aCells H ⟨u, 0, none⟩ 1 = some [.int .i64 id]) :
    AFunC Try.prog 109 [.agg #[.int .i64 v.1, .int .i64 v.2.1, .int .i64 v.2.2.1, .bool v.2.2.2], .pointer (some ⟨u, 0, none⟩)] H (.bool (vlIs id v)) H := by
  refine AFunC.of_body Try.func109 (by kernel_rfl) rfl (by kernel_rfl) (by simp [Try.ntmps109]) ?_
  simp -dsimp -implicitDefEqProofs (disch := omega) [go_sem, -List.getD_eq_getElem?_getD, ite_yes, cu, hl]
  exact fin_flat rfl rfl
theorem valveIndex_A (l : List Vl) (hl : l.length ≤ 1048577) (c : Nat) (id : Int) (H : Heap) (t : Nat) (hS : Sl vlE H t l) :
    AFunC Try.prog 87 [.slice (some ⟨t, 0, none⟩) l.length c, .int .i64 id] H (.int .i64 (ixOf (vlIs id) l)) H := by
  refine AFunC.of_body Try.func87 (by kernel_rfl) rfl (by kernel_rfl) (by simp [Try.ntmps87]) ?_
  have ht := hS.lt
  simp -dsimp -implicitDefEqProofs (disch := omega) [go_sem, -List.getD_eq_getElem?_getD, ite_yes, ht]
  have A := indexFuncVl_A l (vlIs id) 109 #[.pointer (some ⟨H.length, 0, none⟩)] hl c (H ++ [some ⟨[.int .i64 id], true, 3, 1⟩]) t hS.app (by simp -dsimp -implicitDefEqProofs (disch := omega) [go_sem, -List.getD_eq_getElem?_getD, ite_yes, ht])
    (fun k hk => valveIndex1_A _ _ _ _ (by simp) (by simp -dsimp -implicitDefEqProofs (disch := omega) [go_sem, -List.getD_eq_getElem?_getD, ite_yes, ht]))
  refine ACall.of A ?_
  simp -dsimp -implicitDefEqProofs (disch := omega) [go_sem, -List.getD_eq_getElem?_getD, ite_yes]
  exact fin_flat rfl rfl
theorem l4Find_A (l : List Vl) (hl : l.length ≤ 1048577) (c : Nat) (id : Int) (H : Heap) (t : Nat) (hS : Sl vlE H t l) :
    AFunC Try.prog 121 [.slice (some ⟨t, 0, none⟩) l.length c, .int .i64 id] H (.int .i64 (ixOf (vlIs id) l)) H := by
  refine AFunC.of_body Try.func121 (by kernel_rfl) rfl (by kernel_rfl) (by simp [Try.ntmps121]) ?_
  have ht := hS.lt
  have c0 := fun k hk => hS.cell (s := 4) (fun _ => rfl) vl0 k 0 hk (by omega)
  simp only [vlE, Nat.add_zero] at c0
  have hr := found_ix vl0 (vlIs id) l
  generalize ixOf (vlIs id) l = r at hr
  simp -dsimp -implicitDefEqProofs (disch := omega) [go_sem, -List.getD_eq_getElem?_getD, ite_yes]
  refine ALoop.intro (ι := Nat) (fun k => k ≤ l.length ∧ findTo vl0 (vlIs id) l k) (fun k => [(0, .slice (some ⟨t, 0, none⟩) l.length c), (1, .int .i64 id), (5, .int .i64 k)]) (fun _ => H) (fun k => l.length - k) 0 ⟨by omega, fun i hi => by omega⟩ ?_ ?_
  · exact weakS_same (by simp -dsimp -implicitDefEqProofs (disch := omega) [go_sem, -List.getD_eq_getElem?_getD, ite_yes, ht])
  · rintro k ⟨hk, hf⟩
    by_cases hlt : k < l.length
    · have c0' := c0 k hlt
      by_cases h : (l.getD k vl0).1 = id
      · simp -dsimp -implicitDefEqProofs (disch := omega) [go_sem, -List.getD_eq_getElem?_getD, ite_yes, hlt, c0', h]
        exact fin_flat0 rfl (by rw [found_uniq hr (.yes k hlt (decide_eq_true h) hf)])
      · simp -dsimp -implicitDefEqProofs (disch := omega) [go_sem, -List.getD_eq_getElem?_getD, ite_yes, hlt, c0', h]
        exact LoopEnd.of (k + 1) ⟨by omega, hf.next (decide_eq_false h)⟩ (by omega) (weakS_same (by simp -dsimp -implicitDefEqProofs (disch := omega) [go_sem, -List.getD_eq_getElem?_getD, ite_yes, ht]))
    · simp -dsimp -implicitDefEqProofs (disch := omega) [go_sem, -List.getD_eq_getElem?_getD, ite_yes, hlt]
      obtain rfl : k = l.length := by omega
      exact fin_flat0 rfl (by rw [found_uniq hr (.no hf)])
theorem touches_A (n : Int) (ps : List Pp) (hps : ps.length ≤ 10) (cp : Nat) (R : List Bool) (hR : R.length = 19) (v : Vl) (hv : 1 ≤ v.2.2.1 ∧ v.2.2.1 ≤ 8) (q : Nat) (hq : pipeIx ps v.2.1 = (q : Int)) (hql : q < ps.length) (H : Heap) (tp u : Nat) (hP : Sl ppE H tp ps) (hU : Sl blE H u R) :
    AFunC Try.prog 88 [netV n tp ps.length cp, .pointer (some ⟨u, 0, none⟩), .agg #[.int .i64 v.1, .int .i64 v.2.1, .int .i64 v.2.2.1, .bool v.2.2.2]] H (.bool (tchB ps R v)) H := by
  refine AFunC.of_body Try.func88 (by kernel_rfl) rfl (by kernel_rfl) (by simp [Try.ntmps88]) ?_
  have htp := hP.lt
  have htu := hU.lt
  obtain ⟨v1, v2, v3, v4⟩ := v
  simp only at hv hq
  obtain ⟨a, rfl⟩ : ∃ a : Nat, v3 = (a : Int) := ⟨v3.toNat, by omega⟩
  have cu := fun k hk => hU.one (g := Value.bool) false k hk
  have ca := cu a (by omega)
  have cb := cu (9 + q) (by omega)
  have ha : a < 19 := by omega
  have hq9 : (9 + (q : Int)).toNat = 9 + q := by omega
  have ht : tchB ps R (v1, v2, (a : Int), v4) = (R.getD a false || R.getD (9 + q) false) := by unfold tchB; rw [hq]; rfl
  simp -dsimp -implicitDefEqProofs (disch := omega) [go_sem, -List.getD_eq_getElem?_getD, ite_yes, htp, htu]
  refine ADraw.quiet (by kernel_rfl) (by kernel_rfl) (by kernel_rfl) ?_
  cases e1 : R.getD a false
  · rw [e1] at ca ht
    simp -dsimp -implicitDefEqProofs (disch := omega) [go_sem, -List.getD_eq_getElem?_getD, ite_yes, htp, htu, ca, ha]
    refine ACallQ.of (pipeIndex_A n ps (by omega) cp v2 _ tp hP.app.ro) rfl ?_
    rw [hq]
    simp -dsimp -implicitDefEqProofs (disch := omega) [go_sem, -List.getD_eq_getElem?_getD, ite_yes, htp, htu]
    refine ACallQ.of (element_A q (by omega) _) rfl ?_
    simp -dsimp -implicitDefEqProofs (disch := omega) [go_sem, -List.getD_eq_getElem?_getD, ite_yes, htp, htu, cb, hq9]
    exact fin_flat rfl (by rw [ht]; rfl)
  · rw [e1] at ca ht
    simp -dsimp -implicitDefEqProofs (disch := omega) [go_sem, -List.getD_eq_getElem?_getD, ite_yes, htp, htu, ca, ha]
    exact fin_flat rfl (by rw [ht]; rfl)
theorem mem_dryN {R : List Bool} {j : Nat} : ∀ k, (((j : Nat) : Int) ∈ dryN R k) ↔ (1 ≤ j ∧ j ≤ k ∧ R.getD j false = false)
  | 0 => by simp [dryN]; omega
  | k + 1 => by
    rw [dryN]
    have ih := mem_dryN (R := R) (j := j) k
    split
    · rename_i h
      rw [ih]
      constructor
      · rintro ⟨h1, h2, h3⟩; exact ⟨h1, by omega, h3⟩
      · rintro ⟨h1, h2, h3⟩
        refine ⟨h1, ?_, h3⟩
        rcases Nat.lt_or_ge j (k + 1) with h' | h'
        · omega
        · obtain rfl : j = k + 1 := by omega
          rw [h] at h3; cases h3
    · rename_i h
      rw [List.mem_append, ih, List.mem_singleton]
      constructor
      · rintro (⟨h1, h2, h3⟩ | e)
        · exact ⟨h1, by omega, h3⟩
        · obtain rfl : j = k + 1 := by omega
          exact ⟨by omega, by omega, by simpa using h⟩
      · rintro ⟨h1, h2, h3⟩
        rcases Nat.lt_or_ge j (k + 1) with h' | h'
        · exact .inl ⟨h1, by omega, h3⟩
        · exact .inr (by omega)
theorem mem_dryP {R : List Bool} {j : Nat} : ∀ k, (((j : Nat) : Int) ∈ dryP R k) ↔ (j < k ∧ R.getD (9 + j) false = false)
  | 0 => by simp [dryP]
  | k + 1 => by
    rw [dryP]
    have ih := mem_dryP (R := R) (j := j) k
    split
    · rename_i h
      rw [ih]
      constructor
      · rintro ⟨h2, h3⟩; exact ⟨by omega, h3⟩
      · rintro ⟨h2, h3⟩
        refine ⟨?_, h3⟩
        rcases Nat.lt_or_ge j k with h' | h'
        · omega
        · obtain rfl : j = k := by omega
          rw [h] at h3; cases h3
    · rename_i h
      rw [List.mem_append, ih, List.mem_singleton]
      constructor
      · rintro (⟨h2, h3⟩ | e)
        · exact ⟨by omega, h3⟩
        · obtain rfl : j = k := by omega
          exact ⟨by omega, by simpa using h⟩
      · rintro ⟨h2, h3⟩
        rcases Nat.lt_or_ge j k with h' | h'
        · exact .inl ⟨h', h3⟩
        · exact .inr (by omega)
theorem has_dryN {R : List Bool} {j k : Nat} (h1 : 1 ≤ j) (h2 : j ≤ k) : hasI (dryN R k) (j : Int) = !R.getD j false := by
  unfold hasI
  rw [decide_eq_decide.2 (mem_dryN k)]
  by_cases h : R.getD j false = true
  · rw [show (!R.getD j false) = false by rw [h]; rfl]
    exact decide_eq_false fun h' => by rw [h] at h'; cases h'.2.2
  · have h' : R.getD j false = false := by simpa using h
    rw [show (!R.getD j false) = true by rw [h']; rfl]
    exact decide_eq_true ⟨h1, h2, h'⟩
theorem has_dryP {R : List Bool} {j k : Nat} (h2 : j < k) : hasI (dryP R k) (j : Int) = !R.getD (9 + j) false := by
  unfold hasI
  rw [decide_eq_decide.2 (mem_dryP k)]
  by_cases h : R.getD (9 + j) false = true
  · rw [show (!R.getD (9 + j) false) = false by rw [h]; rfl]
    exact decide_eq_false fun h' => by rw [h] at h'; cases h'.2
  · have h' : R.getD (9 + j) false = false := by simpa using h
    rw [show (!R.getD (9 + j) false) = true by rw [h']; rfl]
    exact decide_eq_true ⟨h2, h'⟩
theorem opL_congr (l : List Vl) {a b : List Int} (h : ∀ x, hasI a x = hasI b x) : opL l a = opL l b := by
  refine List.ext_getElem (by rw [opL_length, opL_length]) fun i h1 h2 => ?_
  rw [opL_length] at h1
  have e1 := opL_getD l a h1
  have e2 := opL_getD l b h1
  have : opV a (l.getD i vl0) = opV b (l.getD i vl0) := by unfold opV; rw [h]
  rw [this, ← e2, List.getD_eq_getElem?_getD, List.getElem?_eq_getElem (by rw [opL_length]; exact h1), List.getD_eq_getElem?_getD, List.getElem?_eq_getElem (by rw [opL_length]; exact h1)] at e1
  simpa using e1
theorem opL_perm (l : List Vl) {a b : List Int} (h : a.Perm b) : opL l a = opL l b := opL_congr l fun x => by unfold hasI; rw [decide_eq_decide]; exact h.mem_iff
/-- whether water reaches a valve after some are opened -/
def rchB (ps : List Pp) (l : List Vl) (src : Int) (ids : List Int) (id : Int) : Bool := tchB ps (wetR ps (opL l ids) src) (vlAt l id)
/-- whether a step is gentle -/
def gtlB (ps : List Pp) (l : List Vl) (src : Int) (a : List Int) (k : Nat) : Bool := rchB ps l src (a.take k) (a.getD k 0) || !rchB ps l src (shutL l) (a.getD k 0)
def gtlTo (ps : List Pp) (l : List Vl) (src : Int) (a : List Int) (k : Nat) : Prop := ∀ i, i < k → gtlB ps l src a i = true
instance gtlTo_dec (ps : List Pp) (l : List Vl) (src : Int) (a : List Int) (k : Nat) : Decidable (gtlTo ps l src a k) := by unfold gtlTo; infer_instance
def gtlN (ps : List Pp) (l : List Vl) (src : Int) (a : List Int) : Bool := decide (gtlTo ps l src a a.length)
theorem gtlN_no {ps : List Pp} {l : List Vl} {src : Int} {a : List Int} {k : Nat} (hk : k < a.length) (h : gtlB ps l src a k = false) : gtlN ps l src a = false :=
  decide_eq_false fun h' => by have := h' k hk; rw [h] at this; cases this
theorem gtlTo.next {ps : List Pp} {l : List Vl} {src : Int} {a : List Int} {k : Nat} (h : gtlTo ps l src a k) (h1 : gtlB ps l src a k = true) : gtlTo ps l src a (k + 1) := by
  intro i hi
  rcases Nat.lt_or_ge i k with h' | h'
  · exact h i h'
  · obtain rfl : i = k := by omega
    exact h1
theorem l18Reached_A (n : Int) (ps : List Pp) (cp : Nat) (l : List Vl) (hg : goodV n ps l = true) (c : Nat) (src : Int) (hsrc : 1 ≤ src ∧ src ≤ n) (ids : List Int) (hi : ids.length ≤ 1048577) (d o : Nat) (id : Int) (hid : hasI (shutL l) id = true) (H : Heap) (tp t u : Nat) (hP : Sl ppE H tp ps) (hS : Sl vlE H t l) (hU : IdS H u o ids) :
    AFunC Try.prog 91 [netV n tp ps.length cp, .slice (some ⟨t, 0, none⟩) l.length c, .int .i64 src, .slice (some ⟨u, o, none⟩) ids.length d, .int .i64 id] H (.bool (rchB ps l src ids id)) H := by
  refine AFunC.of_body Try.func91 (by kernel_rfl) rfl (by kernel_rfl) (by simp [Try.ntmps91]) ?_
  have htp := hP.lt
  have ht := hS.lt
  have hu := hU.lt
  obtain ⟨hN, hl⟩ := goodV_net hg
  have hpl := hN.f_len
  have hn := hN.f_n
  obtain ⟨q, hq, hql, hqv⟩ := vlIs_ix hid
  obtain ⟨⟨r, hr, hrl⟩, hv1, hv2⟩ := vl_ok hg hql
  have cs := hS.cells (s := 4) (fun _ => rfl) vl0 q hql
  simp only [vlE] at cs
  have hrb : rchB ps l src ids id = ((!hasI (dryN (wetR ps (opL l ids) src) n.toNat) (l.getD q vl0).2.2.1) || !hasI (dryP (wetR ps (opL l ids) src) ps.length) (r : Int)) := by
    obtain ⟨a, ha⟩ : ∃ a : Nat, (l.getD q vl0).2.2.1 = (a : Int) := ⟨(l.getD q vl0).2.2.1.toNat, by omega⟩
    unfold rchB tchB
    rw [hqv, hr, ha, Int.toNat_natCast, Int.toNat_natCast, has_dryN (by omega) (by omega), has_dryP hrl, Bool.not_not, Bool.not_not]
  have hdn := dryN_length (wetR ps (opL l ids) src) n.toNat
  have hdp := dryP_length (wetR ps (opL l ids) src) ps.length
  generalize hDn : dryN (wetR ps (opL l ids) src) n.toNat = Dn at *
  generalize hDp : dryP (wetR ps (opL l ids) src) ps.length = Dp at *
  have A := opL_length l ids ▸ l4Dry_A n ps hN cp (opL l ids) (by rw [opL_length]; omega) 0 src hsrc
  rw [hDn, hDp] at A
  simp -dsimp -implicitDefEqProofs (disch := omega) [go_sem, -List.getD_eq_getElem?_getD, ite_yes, htp, ht, hu]
  refine ADraw.mid [(1, .slice (some ⟨t, 0, none⟩) l.length c), (4, .int .i64 id), (5, .pointer (some ⟨H.length, 0, none⟩)), (11, .slice (some ⟨H.length + 1, 0, none⟩) Dn.length 0), (12, .slice (some ⟨H.length + 2, 0, none⟩) Dp.length 0)] (H ++ [some ⟨[.int .i64 n, .slice (some ⟨tp, 0, none⟩) ps.length cp], true, 33, 1⟩, some ⟨Dn.flatMap nmE, true, 3, 1⟩, some ⟨Dp.flatMap nmE, true, 3, 1⟩]) ?_ ?_
  · skip
    refine ADraw.any H (by kernel_rfl) (by first | exact SubH.refl | exact SubH.app | exact SubH.both (by simp [subL])) ?_
    refine AAny.takes (fuel := 8) (by kernel_rfl) (by kernel_rfl) [1, 2, 4] (by kernel_rfl) (by kernel_rfl) ?_
    simp -dsimp -implicitDefEqProofs (disch := omega) [go_sem, -List.getD_eq_getElem?_getD, ite_yes, htp, ht, hu]
    refine AAny.two 7 0 3 (by kernel_rfl) (by kernel_rfl) (by kernel_rfl) ?_ ?_
    · simp -dsimp -implicitDefEqProofs (disch := omega) [go_sem, -List.getD_eq_getElem?_getD, ite_yes, htp, ht, hu]
      first | refine AAt.of (by first | exact SubH.refl | exact SubH.app | exact SubH.both (by simp [subL])) ?_ | (refine ⟨?_, AAt.of (by first | exact SubH.refl | exact SubH.app | exact SubH.both (by simp [subL])) ?_⟩; · omega)
      refine AAny.one 6 3 (by kernel_rfl) (by kernel_rfl) (by kernel_rfl) ?_
      simp -dsimp -implicitDefEqProofs (disch := omega) [go_sem, -List.getD_eq_getElem?_getD, ite_yes, htp, ht, hu]
      refine ACall.of (l18Opened_A l (by omega) c ids hi d o _ t u hS.app hU.app) ?_
      simp -dsimp -implicitDefEqProofs (disch := omega) [go_sem, -List.getD_eq_getElem?_getD, ite_yes, htp, ht, hu]
      first | refine AAt.of (by first | exact SubH.refl | exact SubH.app | exact SubH.both (by simp [subL])) ?_ | (refine ⟨?_, AAt.of (by first | exact SubH.refl | exact SubH.app | exact SubH.both (by simp [subL])) ?_⟩; · omega)
      refine AAny.one 5 5 (by kernel_rfl) (by kernel_rfl) (by kernel_rfl) ?_
      simp -dsimp -implicitDefEqProofs (disch := omega) [go_sem, -List.getD_eq_getElem?_getD, ite_yes, htp, ht, hu]
      refine ACall.of (A _ tp (H.length + 1) hP.app (Sl.of1 rfl)) ?_
      simp -dsimp -implicitDefEqProofs (disch := omega) [go_sem, -List.getD_eq_getElem?_getD, ite_yes, htp, ht, hu]
      first | refine AAt.of (by first | exact SubH.refl | exact SubH.app | exact SubH.both (by simp [subL])) ?_ | (refine ⟨?_, AAt.of (by first | exact SubH.refl | exact SubH.app | exact SubH.both (by simp [subL])) ?_⟩; · omega)
      refine AAny.takes (fuel := 0) (by kernel_rfl) (by kernel_rfl) [6, 7, 8, 9, 10] (by kernel_rfl) (by kernel_rfl) ?_
      simp -dsimp -implicitDefEqProofs (disch := omega) [go_sem, -List.getD_eq_getElem?_getD, ite_yes, htp, ht, hu]
      refine AAny.done (by kernel_rfl) ?_
      simp -dsimp -implicitDefEqProofs (disch := omega) [go_sem, -List.getD_eq_getElem?_getD, ite_yes, htp, ht, hu]
      exact ⟨weakS_mk [some 0, some 2, some 3] rfl (by simp -dsimp -implicitDefEqProofs (disch := omega) [go_sem, -List.getD_eq_getElem?_getD, ite_yes]; exact ⟨wl_net htp, .inl ⟨rfl, nmE_flat _⟩, .inl ⟨rfl, nmE_flat _⟩⟩) (by simp -dsimp -implicitDefEqProofs (disch := omega) [go_sem, -List.getD_eq_getElem?_getD, ite_yes, htp, ht])⟩
    · simp -dsimp -implicitDefEqProofs (disch := omega) [go_sem, -List.getD_eq_getElem?_getD, ite_yes, htp, ht, hu]
      refine ACall.of (l18Opened_A l (by omega) c ids hi d o _ t u hS.app hU.app) ?_
      simp -dsimp -implicitDefEqProofs (disch := omega) [go_sem, -List.getD_eq_getElem?_getD, ite_yes, htp, ht, hu]
      first | refine AAt.of (by first | exact SubH.refl | exact SubH.app | exact SubH.both (by simp [subL])) ?_ | (refine ⟨?_, AAt.of (by first | exact SubH.refl | exact SubH.app | exact SubH.both (by simp [subL])) ?_⟩; · omega)
      refine AAny.one 6 0 (by kernel_rfl) (by kernel_rfl) (by kernel_rfl) ?_
      simp -dsimp -implicitDefEqProofs (disch := omega) [go_sem, -List.getD_eq_getElem?_getD, ite_yes, htp, ht, hu]
      first | refine AAt.of (by first | exact SubH.refl | exact SubH.app | exact SubH.both (by simp [subL])) ?_ | (refine ⟨?_, AAt.of (by first | exact SubH.refl | exact SubH.app | exact SubH.both (by simp [subL])) ?_⟩; · omega)
      refine AAny.one 5 5 (by kernel_rfl) (by kernel_rfl) (by kernel_rfl) ?_
      simp -dsimp -implicitDefEqProofs (disch := omega) [go_sem, -List.getD_eq_getElem?_getD, ite_yes, htp, ht, hu]
      refine ACall.of (A _ tp (H.length + 1) hP.app (Sl.of1 rfl)) ?_
      simp -dsimp -implicitDefEqProofs (disch := omega) [go_sem, -List.getD_eq_getElem?_getD, ite_yes, htp, ht, hu]
      first | refine AAt.of (by first | exact SubH.refl | exact SubH.app | exact SubH.both (by simp [subL])) ?_ | (refine ⟨?_, AAt.of (by first | exact SubH.refl | exact SubH.app | exact SubH.both (by simp [subL])) ?_⟩; · omega)
      refine AAny.takes (fuel := 0) (by kernel_rfl) (by kernel_rfl) [6, 7, 8, 9, 10] (by kernel_rfl) (by kernel_rfl) ?_
      simp -dsimp -implicitDefEqProofs (disch := omega) [go_sem, -List.getD_eq_getElem?_getD, ite_yes, htp, ht, hu]
      refine AAny.done (by kernel_rfl) ?_
      simp -dsimp -implicitDefEqProofs (disch := omega) [go_sem, -List.getD_eq_getElem?_getD, ite_yes, htp, ht, hu]
      exact ⟨weakS_mk [some 0, some 2, some 3] rfl (by simp -dsimp -implicitDefEqProofs (disch := omega) [go_sem, -List.getD_eq_getElem?_getD, ite_yes]; exact ⟨wl_net htp, .inl ⟨rfl, nmE_flat _⟩, .inl ⟨rfl, nmE_flat _⟩⟩) (by simp -dsimp -implicitDefEqProofs (disch := omega) [go_sem, -List.getD_eq_getElem?_getD, ite_yes, htp, ht])⟩
  simp -dsimp -implicitDefEqProofs (disch := omega) [go_sem, -List.getD_eq_getElem?_getD, ite_yes, htp, ht]
  refine ACall.of (l4Find_A l (by omega) c id _ t hS.app) ?_
  rw [hq]
  have hqi : (q : Int) < (l.length : Int) := by omega
  simp -dsimp -implicitDefEqProofs (disch := omega) [go_sem, -List.getD_eq_getElem?_getD, ite_yes, htp, ht, hqi, hql, cs]
  refine ACall.of (l1Has_A Dn (l.getD q vl0).2.2.1 (by omega) 0 _ (H.length + 1) (Sl.of1 rfl)) ?_
  cases e1 : hasI Dn (l.getD q vl0).2.2.1
  · simp -dsimp -implicitDefEqProofs (disch := omega) [go_sem, -List.getD_eq_getElem?_getD, ite_yes]
    exact fin_flat rfl (by rw [hrb, e1]; rfl)
  simp -dsimp -implicitDefEqProofs (disch := omega) [go_sem, -List.getD_eq_getElem?_getD, ite_yes, htp, ht]
  refine ACall.of (l2Find_A n ps (by omega) cp (l.getD q vl0).2.1 _ tp hP.app) ?_
  rw [hr]
  simp -dsimp -implicitDefEqProofs (disch := omega) [go_sem, -List.getD_eq_getElem?_getD, ite_yes, htp, ht]
  refine ACall.of (l1Has_A Dp (r : Int) (by omega) 0 _ (H.length + 2) (Sl.nth 2 rfl rfl)) ?_
  simp -dsimp -implicitDefEqProofs (disch := omega) [go_sem, -List.getD_eq_getElem?_getD, ite_yes]
  exact fin_flat rfl (by rw [hrb, e1]; rfl)
end Go.Proofs.Ytaehphcaiabdmaa
