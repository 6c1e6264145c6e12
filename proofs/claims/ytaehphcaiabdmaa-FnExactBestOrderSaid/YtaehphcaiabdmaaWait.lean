/- WaitingOf: both sides, and the law. -/
import Derived.Test.YtaehphcaiabdmaaGentle2
namespace Go.Proofs.Ytaehphcaiabdmaa
open Go.Am
set_option linter.unusedVariables false
set_option linter.unusedSimpArgs false
set_option maxRecDepth 100000
set_option maxHeartbeats 4000000

def notC (x : Int) : Bool := !inB x 0 1000
/-- whether there is a valid number of customers at each node -/
def custOk (n : Int) (cu : List Int) : Bool := decide ((cu.length : Int) = n) && !decide (0 ≤ ixOf notC cu)
theorem custOk_at {n : Int} {cu : List Int} (h : custOk n cu = true) : (cu.length : Int) = n ∧ ∀ i, 0 ≤ cu.getD i 0 ∧ cu.getD i 0 ≤ 1000 := by
  unfold custOk at h
  simp only [Bool.and_eq_true, decide_eq_true_eq, Bool.not_eq_true', decide_eq_false_iff_not] at h
  refine ⟨h.1, fun i => ?_⟩
  rcases ix_cases 0 notC cu with ⟨_, h2⟩ | ⟨q, h1, _⟩
  · by_cases hi : i < cu.length
    · have := h2 i hi
      simp [notC, inB, -List.getD_eq_getElem?_getD] at this
      omega
    · rw [List.getD_eq_getElem?_getD, List.getElem?_eq_none (by omega)]; simp
  · omega
theorem indexFuncNm_A (l : List Int) (p : Int → Bool) (g : Nat) (cap : Array Value) (hl : l.length ≤ 1048577) (c : Nat) (H : Heap) (t : Nat) (hS : Sl nmE H t l) (hc : L2 (WMP (sg H.length []) H.length) cap.toList cap.toList)
    (hp : ∀ k, k < l.length → AFunC Try.prog g (.int .i64 (l.getD k 0) :: cap.toList) H (.bool (p (l.getD k 0))) H) :
    AFunC Try.prog 107 [.slice (some ⟨t, 0, none⟩) l.length c, .func (.func g) #[] cap] H (.int .i64 (ixOf p l)) H := by
  refine AFunC.of_body Try.func107 (by kernel_rfl) rfl (by kernel_rfl) (by simp [Try.ntmps107]) ?_
  have ht := hS.lt
  have cs := fun k hk => hS.one (g := fun n => Value.int .i64 n) 0 k hk
  have hr := found_ix 0 p l
  simp -dsimp -implicitDefEqProofs (disch := omega) [go_sem, -List.getD_eq_getElem?_getD, ite_yes]
  refine ALoop.intro (ι := Nat) (fun k => k ≤ l.length ∧ findTo 0 p l k) (fun k => [(0, .slice (some ⟨t, 0, none⟩) l.length c), (1, .func (.func g) #[] cap), (7, .int .i64 l.length), (8, .int .i64 k)]) (fun _ => H) (fun k => l.length - k) 0 ⟨by omega, fun i hi => by omega⟩ ?_ ?_
  · exact weakS_same (by simp -dsimp -implicitDefEqProofs (disch := omega) [go_sem, -List.getD_eq_getElem?_getD, ite_yes, ht]; simpa using hc)
  · rintro k ⟨hk, hf⟩
    by_cases hlt : k < l.length
    · simp -dsimp -implicitDefEqProofs (disch := omega) [go_sem, -List.getD_eq_getElem?_getD, ite_yes, hlt, cs]
      refine ACall.of (hp k hlt) ?_
      simp -dsimp -implicitDefEqProofs (disch := omega) [go_sem, -List.getD_eq_getElem?_getD, ite_yes]
      refine AIf.of (fun h => ?_) (fun h => ?_)
      · simp -dsimp -implicitDefEqProofs (disch := omega) [go_sem, -List.getD_eq_getElem?_getD, ite_yes]
        have := found_uniq hr (.yes k hlt h hf)
        exact fin_flat0 rfl (by rw [this])
      · simp -dsimp -implicitDefEqProofs (disch := omega) [go_sem, -List.getD_eq_getElem?_getD, ite_yes]
        exact LoopEnd.of (k + 1) ⟨by omega, hf.next h⟩ (by omega) (weakS_same (by simp -dsimp -implicitDefEqProofs (disch := omega) [go_sem, -List.getD_eq_getElem?_getD, ite_yes, ht]; simpa using hc))
    · simp -dsimp -implicitDefEqProofs (disch := omega) [go_sem, -List.getD_eq_getElem?_getD, ite_yes, hlt]
      obtain rfl : k = l.length := by omega
      have := found_uniq hr (.no hf)
      exact fin_flat0 rfl (by rw [this])
theorem containsFuncNm_A (l : List Int) (p : Int → Bool) (g : Nat) (cap : Array Value) (hl : l.length ≤ 1048577) (c : Nat) (H : Heap) (t : Nat) (hS : Sl nmE H t l) (hc : L2 (WMP (sg H.length []) H.length) cap.toList cap.toList)
    (hp : ∀ k, k < l.length → AFunC Try.prog g (.int .i64 (l.getD k 0) :: cap.toList) H (.bool (p (l.getD k 0))) H) :
    AFunC Try.prog 83 [.slice (some ⟨t, 0, none⟩) l.length c, .func (.func g) #[] cap] H (.bool (decide (0 ≤ ixOf p l))) H := by
  refine AFunC.of_body Try.func83 (by kernel_rfl) rfl (by kernel_rfl) (by simp [Try.ntmps83]) ?_
  simp -dsimp -implicitDefEqProofs (disch := omega) [go_sem, -List.getD_eq_getElem?_getD, ite_yes]
  refine ACall.of (indexFuncNm_A l p g cap hl c H t hS hc hp) ?_
  simp -dsimp -implicitDefEqProofs (disch := omega) [go_sem, -List.getD_eq_getElem?_getD, ite_yes]
  exact fin_flat0 rfl rfl
theorem areCustomers1_A (x : Int) (H : Heap) : AFunC Try.prog 84 [.int .i64 x] H (.bool (notC x)) H := by
  refine AFunC.of_body Try.func84 (by kernel_rfl) rfl (by kernel_rfl) (by simp [Try.ntmps84]) ?_
  simp -dsimp -implicitDefEqProofs (disch := omega) [go_sem, -List.getD_eq_getElem?_getD, ite_yes]
  refine ACall.of (inside_A _ _ _ _) ?_
  simp -dsimp -implicitDefEqProofs (disch := omega) [go_sem, -List.getD_eq_getElem?_getD, ite_yes]
  exact fin_flat0 rfl rfl
theorem areCustomers_A (n : Int) (tp m cp : Nat) (cu : List Int) (hcu : cu.length ≤ 1048577) (d : Nat) (H : Heap) (u : Nat) (htp : tp < H.length) (hU : Sl nmE H u cu) :
    AFunC Try.prog 57 [netV n tp m cp, .slice (some ⟨u, 0, none⟩) cu.length d] H (.bool (custOk n cu)) H := by
  refine AFunC.of_body Try.func57 (by kernel_rfl) rfl (by kernel_rfl) (by simp [Try.ntmps57]) ?_
  have hu := hU.lt
  by_cases h1 : (cu.length : Int) = n
  · simp -dsimp -implicitDefEqProofs (disch := omega) [go_sem, -List.getD_eq_getElem?_getD, ite_yes, h1, htp, hu]
    refine ACall.of (containsFuncNm_A cu notC 84 #[] hcu d _ u hU.app trivial fun k hk => areCustomers1_A _ _) ?_
    simp -dsimp -implicitDefEqProofs (disch := omega) [go_sem, -List.getD_eq_getElem?_getD, ite_yes]
    exact fin_flat rfl (by rw [custOk, decide_eq_true h1, Bool.true_and])
  · simp -dsimp -implicitDefEqProofs (disch := omega) [go_sem, -List.getD_eq_getElem?_getD, ite_yes, h1, htp, hu]
    exact fin_flat rfl (by rw [custOk, decide_eq_false h1, Bool.false_and])
theorem l5Customers_A (n : Int) (tp m cp : Nat) (cu : List Int) (hcu : cu.length ≤ 1048577) (d : Nat) (H : Heap) (u : Nat) (htp : tp < H.length) (hU : Sl nmE H u cu) :
    AFunC Try.prog 55 [netV n tp m cp, .slice (some ⟨u, 0, none⟩) cu.length d] H (.bool (custOk n cu)) H := by
  refine AFunC.of_body Try.func55 (by kernel_rfl) rfl (by kernel_rfl) (by simp [Try.ntmps55]) ?_
  have hu := hU.lt
  have cs := fun k hk => hU.one (g := fun n => Value.int .i64 n) 0 k hk
  have hr := found_ix 0 notC cu
  simp -dsimp -implicitDefEqProofs (disch := omega) [go_sem, -List.getD_eq_getElem?_getD, ite_yes, htp, hu]
  refine ALoop.intro (ι := Nat) (fun k => k ≤ cu.length ∧ findTo 0 notC cu k) (fun k => [(1, .slice (some ⟨u, 0, none⟩) cu.length d), (2, .pointer (some ⟨H.length, 0, none⟩)), (5, .int .i64 k)]) (fun _ => H ++ [some ⟨[.int .i64 n, .slice (some ⟨tp, 0, none⟩) m cp], true, 33, 1⟩]) (fun k => cu.length - k) 0 ⟨by omega, fun i hi => by omega⟩ ?_ ?_
  · refine weakS_mk [some 0] rfl ?_ (by simp -dsimp -implicitDefEqProofs (disch := omega) [go_sem, -List.getD_eq_getElem?_getD, ite_yes, htp, hu])
    simp -dsimp -implicitDefEqProofs (disch := omega) [go_sem, -List.getD_eq_getElem?_getD, ite_yes]
    exact wl_net htp
  rintro k ⟨hk, hf⟩
  by_cases hlt : k < cu.length
  · have hltn : (k : Int) < (cu.length : Int) := by omega
    have c1 := cs k hlt
    simp -dsimp -implicitDefEqProofs (disch := omega) [go_sem, -List.getD_eq_getElem?_getD, ite_yes, hlt, hltn, hu, c1]
    refine ACall.of (l1In_A _ _ _ _) ?_
    cases h : inB (cu.getD k 0) 0 1000
    · simp -dsimp -implicitDefEqProofs (disch := omega) [go_sem, -List.getD_eq_getElem?_getD, ite_yes]
      have := found_uniq hr (.yes k hlt (by unfold notC; rw [h]; rfl) hf)
      exact fin_flat rfl (by rw [custOk, this, decide_eq_true (show (0 : Int) ≤ (k : Int) by omega)]; simp)
    · simp -dsimp -implicitDefEqProofs (disch := omega) [go_sem, -List.getD_eq_getElem?_getD, ite_yes]
      refine LoopEnd.of (k + 1) ⟨by omega, hf.next (by unfold notC; rw [h]; rfl)⟩ (by omega) (weakS_mk [some 0] rfl ?_ (by simp -dsimp -implicitDefEqProofs (disch := omega) [go_sem, -List.getD_eq_getElem?_getD, ite_yes, htp, hu]))
      simp -dsimp -implicitDefEqProofs (disch := omega) [go_sem, -List.getD_eq_getElem?_getD, ite_yes]
      exact wl_net htp
  · have hltn : ¬ (k : Int) < (cu.length : Int) := by omega
    obtain rfl : k = cu.length := by omega
    have := found_uniq hr (.no hf)
    simp -dsimp -implicitDefEqProofs (disch := omega) [go_sem, -List.getD_eq_getElem?_getD, ite_yes, hltn, htp, hu]
    exact fin_flat rfl (by rw [custOk, this]; simp)
def harmTo (R : List Bool) (cu : List Int) : Nat → Int
  | 0 => 0
  | k + 1 => if R.getD (k + 1) false then harmTo R cu k else harmTo R cu k + cu.getD k 0
theorem harmTo_rng {R : List Bool} {cu : List Int} (h : ∀ i, 0 ≤ cu.getD i 0 ∧ cu.getD i 0 ≤ 1000) : ∀ k : Nat, 0 ≤ harmTo R cu k ∧ harmTo R cu k ≤ 1000 * (k : Int)
  | 0 => by simp [harmTo]
  | k + 1 => by
    have := harmTo_rng (R := R) h k
    have := h k
    rw [harmTo]
    split <;> omega
/-- the sum of the customers at the first k of some nodes -/
def sumD (D cu : List Int) : Nat → Int
  | 0 => 0
  | k + 1 => sumD D cu k + cu.getD (D.getD k 0 - 1).toNat 0
theorem sumD_left (D E cu : List Int) : ∀ k, k ≤ D.length → sumD (D ++ E) cu k = sumD D cu k
  | 0, _ => rfl
  | k + 1, hk => by
    have e : (D ++ E).getD k 0 = D.getD k 0 := by
      rw [List.getD_eq_getElem?_getD, List.getElem?_append_left (by omega), ← List.getD_eq_getElem?_getD]
    rw [sumD, sumD, sumD_left D E cu k (by omega), e]
theorem sumD_dry (R : List Bool) (cu : List Int) : ∀ k, sumD (dryN R k) cu (dryN R k).length = harmTo R cu k
  | 0 => rfl
  | k + 1 => by
    rw [dryN, harmTo]
    split
    · exact sumD_dry R cu k
    · rw [List.length_append, List.length_singleton, sumD, sumD_left _ _ _ _ (Nat.le_refl _), sumD_dry R cu k]
      have : (dryN R k ++ [((k + 1 : Nat) : Int)]).getD (dryN R k).length 0 = ((k + 1 : Nat) : Int) := by
        rw [List.getD_eq_getElem?_getD, List.getElem?_append_right (Nat.le_refl _), Nat.sub_self]; rfl
      rw [this]
      congr 2
      omega
theorem sumD_rng {D cu : List Int} (h : ∀ i, 0 ≤ cu.getD i 0 ∧ cu.getD i 0 ≤ 1000) : ∀ k : Nat, 0 ≤ sumD D cu k ∧ sumD D cu k ≤ 1000 * (k : Int)
  | 0 => by simp [sumD]
  | k + 1 => by
    have := sumD_rng (D := D) h k
    have := h (D.getD k 0 - 1).toNat
    rw [sumD]
    omega
def stepN (n : Int) (ps : List Pp) (l : List Vl) (src : Int) (ids cu : List Int) : Int := harmTo (wetR ps (opL l ids) src) cu n.toNat
def waitTo (n : Int) (ps : List Pp) (l : List Vl) (src : Int) (a cu : List Int) : Nat → Int
  | 0 => 0
  | k + 1 => waitTo n ps l src a cu k + stepN n ps l src (a.take k) cu
theorem stepN_rng {n : Int} (hn : 1 ≤ n ∧ n ≤ 8) {ps : List Pp} {l : List Vl} {src : Int} {ids cu : List Int} (h : ∀ i, 0 ≤ cu.getD i 0 ∧ cu.getD i 0 ≤ 1000) : 0 ≤ stepN n ps l src ids cu ∧ stepN n ps l src ids cu ≤ 8000 := by
  have := harmTo_rng (R := wetR ps (opL l ids) src) h n.toNat
  unfold stepN
  omega
theorem waitTo_rng {n : Int} (hn : 1 ≤ n ∧ n ≤ 8) {ps : List Pp} {l : List Vl} {src : Int} {a cu : List Int} (h : ∀ i, 0 ≤ cu.getD i 0 ∧ cu.getD i 0 ≤ 1000) : ∀ k : Nat, 0 ≤ waitTo n ps l src a cu k ∧ waitTo n ps l src a cu k ≤ 8000 * (k : Int)
  | 0 => by simp [waitTo]
  | k + 1 => by
    have := waitTo_rng hn (ps := ps) (l := l) (src := src) (a := a) h k
    have := stepN_rng hn (ps := ps) (l := l) (src := src) (ids := a.take k) h
    rw [waitTo]
    omega
theorem l18Step_A (n : Int) (ps : List Pp) (hN : NetAt n ps) (cp : Nat) (l : List Vl) (hl : l.length ≤ 1048577) (c : Nat) (src : Int) (hsrc : 1 ≤ src ∧ src ≤ n) (ids : List Int) (hi : ids.length ≤ 1048577) (d o : Nat) (cu : List Int) (hcu : custOk n cu = true) (d2 : Nat) (H : Heap) (tp t u w : Nat) (hP : Sl ppE H tp ps) (hS : Sl vlE H t l) (hU : IdS H u o ids) (hC : Sl nmE H w cu) :
    AFunC Try.prog 67 [netV n tp ps.length cp, .slice (some ⟨t, 0, none⟩) l.length c, .int .i64 src, .slice (some ⟨u, o, none⟩) ids.length d, .slice (some ⟨w, 0, none⟩) cu.length d2] H (.int .i64 (stepN n ps l src ids cu)) H := by
  refine AFunC.of_body Try.func67 (by kernel_rfl) rfl (by kernel_rfl) (by simp [Try.ntmps67]) ?_
  have htp := hP.lt
  have ht := hS.lt
  have hu := hU.lt
  have hw := hC.lt
  have hn := hN.f_n
  obtain ⟨hcl, hcr⟩ := custOk_at hcu
  have cc := fun k hk => hC.one (g := fun n => Value.int .i64 n) 0 k hk
  have hsum : stepN n ps l src ids cu = sumD (dryO n ps l src ids) cu (dryO n ps l src ids).length := (sumD_dry _ cu n.toNat).symm
  have hdl := dryO_length n ps l src ids
  have hmem : ∀ i, i < (dryO n ps l src ids).length → ∃ j : Nat, (dryO n ps l src ids).getD i 0 = (j : Int) ∧ 1 ≤ j ∧ j ≤ n.toNat := by
    intro i hi
    have hm : (dryO n ps l src ids).getD i 0 ∈ dryO n ps l src ids := by
      rw [List.getD_eq_getElem?_getD, List.getElem?_eq_getElem hi]; exact List.getElem_mem hi
    have hpos : ∀ k, ∀ x ∈ dryN (wetR ps (opL l ids) src) k, 1 ≤ x ∧ x ≤ (k : Int) := by
      intro k
      induction k with
      | zero => intro x hx; exact absurd hx (by simp [dryN])
      | succ k ih =>
        intro x hx
        rw [dryN] at hx
        split at hx
        · have := ih x hx; omega
        · rcases List.mem_append.1 hx with hx | hx
          · have := ih x hx; omega
          · have := List.mem_singleton.1 hx; omega
    have := hpos n.toNat _ hm
    exact ⟨((dryO n ps l src ids).getD i 0).toNat, by omega, by omega, by omega⟩
  simp -dsimp -implicitDefEqProofs (disch := omega) [go_sem, -List.getD_eq_getElem?_getD, ite_yes, htp, ht, hu, hw]
  refine ACall.of (l18Dry_A n ps hN cp l hl c src hsrc ids hi d o _ tp t u hP.app hS.app hU.app) ?_
  generalize dryO n ps l src ids = D at *
  have hfd : (D.flatMap nmE).length = D.length := by rw [nmE_length]; omega
  simp -dsimp -implicitDefEqProofs (disch := omega) [go_sem, -List.getD_eq_getElem?_getD, ite_yes, htp, ht, hu, hw]
  refine ALoop.intro (ι := Nat) (fun k => k ≤ D.length) (fun k => [(4, .slice (some ⟨w, 0, none⟩) cu.length d2), (11, .slice (some ⟨H.length, 0, none⟩) D.length 0), (12, .int .i64 (sumD D cu k)), (13, .int .i64 k)]) (fun _ => H ++ [some ⟨D.flatMap nmE, true, 3, 1⟩]) (fun k => D.length - k) 0 (by omega) ?_ ?_
  · refine weakS_mk [some 1] rfl ?_ (by simp -dsimp -implicitDefEqProofs (disch := omega) [go_sem, -List.getD_eq_getElem?_getD, ite_yes, hw, sumD])
    simp -dsimp -implicitDefEqProofs (disch := omega) [go_sem, -List.getD_eq_getElem?_getD, ite_yes]
    exact .inl ⟨rfl, nmE_flat _⟩
  intro k hk
  by_cases hlt : k < D.length
  · obtain ⟨j, hj, hj1, hj2⟩ := hmem k hlt
    have hltn : (k : Int) < (D.length : Int) := by omega
    have c1 := nm_cell1 D hlt
    have e : sumD D cu (k + 1) = sumD D cu k + cu.getD (D.getD k 0 - 1).toNat 0 := rfl
    rw [hj] at c1 e
    obtain ⟨i, rfl⟩ : ∃ i, j = i + 1 := ⟨j - 1, by omega⟩
    have hji : (((i + 1 : Nat) : Int) - 1).toNat = i := by omega
    rw [hji] at e
    have hil : i < cu.length := by omega
    have hil2 : (i : Int) < (cu.length : Int) := by omega
    have c2 := cc i hil
    have b1 := sumD_rng (D := D) hcr k
    have b2 := hcr i
    simp -dsimp -implicitDefEqProofs (disch := omega) [go_sem, -List.getD_eq_getElem?_getD, ite_yes, hlt, hltn, hfd, c1, hw, hji, hil, hil2, c2]
    refine LoopEnd.of (k + 1) (by omega) (by omega) (weakS_mk [some 0] rfl ?_ (by simp -dsimp -implicitDefEqProofs (disch := omega) [go_sem, -List.getD_eq_getElem?_getD, ite_yes, hw, e]))
    simp -dsimp -implicitDefEqProofs (disch := omega) [go_sem, -List.getD_eq_getElem?_getD, ite_yes]
    exact .inl ⟨rfl, nmE_flat _⟩
  · have hltn : ¬ (k : Int) < (D.length : Int) := by omega
    obtain rfl : k = D.length := by omega
    simp -dsimp -implicitDefEqProofs (disch := omega) [go_sem, -List.getD_eq_getElem?_getD, ite_yes, hltn]
    exact fin_flat rfl (by rw [hsum])
theorem indexNil_A (n : Int) (H : Heap) : AFunC Try.prog 106 [.slice none 0 0, .int .i64 n] H (.int .i64 (-1)) H := by
  refine AFunC.of_body Try.func106 (by kernel_rfl) rfl (by kernel_rfl) (by simp [Try.ntmps106]) ?_
  simp -dsimp -implicitDefEqProofs (disch := omega) [go_sem, -List.getD_eq_getElem?_getD, ite_yes]
  refine ALoop.intro (ι := Unit) (fun _ => True) (fun _ => [(0, .slice none 0 0), (1, .int .i64 n), (7, .int .i64 0), (8, .int .i64 0)]) (fun _ => H) (fun _ => 0) () trivial ?_ ?_
  · exact weakS_same (by simp -dsimp -implicitDefEqProofs (disch := omega) [go_sem, -List.getD_eq_getElem?_getD, ite_yes])
  · intro _ _
    simp -dsimp -implicitDefEqProofs (disch := omega) [go_sem, -List.getD_eq_getElem?_getD, ite_yes]
    exact fin_flat0 rfl rfl
theorem containsNil_A (n : Int) (H : Heap) : AFunC Try.prog 79 [.slice none 0 0, .int .i64 n] H (.bool false) H := by
  refine AFunC.of_body Try.func79 (by kernel_rfl) rfl (by kernel_rfl) (by simp [Try.ntmps79]) ?_
  simp -dsimp -implicitDefEqProofs (disch := omega) [go_sem, -List.getD_eq_getElem?_getD, ite_yes]
  refine ACall.of (indexNil_A n _) ?_
  simp -dsimp -implicitDefEqProofs (disch := omega) [go_sem, -List.getD_eq_getElem?_getD, ite_yes]
  exact fin_flat0 rfl rfl
theorem shutTooNil_A (l : List Vl) (hl : l.length ≤ 1048577) (c : Nat) (H : Heap) (t : Nat) (hS : Sl vlE H t l) :
    AFunC Try.prog 122 [.slice (some ⟨t, 0, none⟩) l.length c, .slice none 0 0] H (.slice (some ⟨H.length, 0, none⟩) l.length 0) (H ++ [some ⟨l.flatMap vlE, true, 65, 4⟩]) := by
  refine AFunC.of_body Try.func122 (by kernel_rfl) rfl (by kernel_rfl) (by simp [Try.ntmps122]) ?_
  have ht := hS.lt
  have al := hS.all (s := 4) (fun _ => rfl)
  simp -dsimp -implicitDefEqProofs (disch := omega) [go_sem, -List.getD_eq_getElem?_getD, ite_yes, ht, al]
  refine ⟨by omega, ?_⟩
  refine ALoop.intro (ι := Nat) (fun k => k ≤ l.length) (fun k => [(1, .slice none 0 0), (5, .slice (some ⟨H.length, 0, none⟩) l.length 0), (11, .int .i64 l.length), (12, .int .i64 k)])
    (fun k => H ++ [some ⟨l.flatMap vlE, true, 65, 4⟩]) (fun k => l.length - k) 0 (by omega) ?_ ?_
  · refine weakS_mk [some 1] rfl ?_ (by simp -dsimp -implicitDefEqProofs (disch := omega) [go_sem, -List.getD_eq_getElem?_getD, ite_yes, ht])
    simp -dsimp -implicitDefEqProofs (disch := omega) [go_sem, -List.getD_eq_getElem?_getD, ite_yes]
    exact .inl ⟨rfl, vlE_flat _⟩
  intro k hk
  by_cases hlt : k < l.length
  · have hS' : Sl vlE (H ++ [some ⟨l.flatMap vlE, true, 65, 4⟩]) H.length l := Sl.of rfl
    have c0 := hS'.cell (s := 4) (fun _ => rfl) vl0 k 0 (by omega) (by omega)
    have c3 := hS'.cell (s := 4) (fun _ => rfl) vl0 k 3 (by omega) (by omega)
    have sc := set_cell (f := vlE) (s := 4) (l := l) (i := k) (fun _ => rfl) (l.getD k vl0) vl0 (by omega) (j := 3) (by omega) (v := .bool (l.getD k vl0).2.2.2) rfl
    have hs : l.set k (l.getD k vl0) = l := by
      refine List.ext_getElem (by simp) fun i h1 h2 => ?_
      rw [List.getElem_set]
      split
      · rename_i h; subst h; simp [List.getD_eq_getElem?_getD, h2]
      · rfl
    rw [hs] at sc
    simp only [vlE, Nat.add_zero] at c0 c3
    have hml : (l.flatMap vlE).length = l.length * 4 := vlE_length l
    have hk4 : k * 4 + 3 < l.length * 4 := by omega
    cases hb : (l.getD k vl0).2.2.2 <;> rw [hb] at c3 sc
    · simp -dsimp -implicitDefEqProofs (disch := omega) [go_sem, -List.getD_eq_getElem?_getD, ite_yes, hlt, ht, c0, c3, hml]
      refine ACall.of (containsNil_A _ _) ?_
      simp -dsimp -implicitDefEqProofs (disch := omega) [go_sem, -List.getD_eq_getElem?_getD, ite_yes, hlt, ht, hml]
      refine LoopEnd.of (k + 1) (by omega) (by omega) (weakS_mk [some 0] rfl ?_ (by simp -dsimp -implicitDefEqProofs (disch := omega) [go_sem, -List.getD_eq_getElem?_getD, ite_yes, ht]))
      simp -dsimp -implicitDefEqProofs (disch := omega) [go_sem, -List.getD_eq_getElem?_getD, ite_yes]
      exact .inl ⟨sc.symm, by rw [sc]; exact vlE_flat _⟩
    · simp -dsimp -implicitDefEqProofs (disch := omega) [go_sem, -List.getD_eq_getElem?_getD, ite_yes, hlt, ht, c0, c3, hml]
      refine LoopEnd.of (k + 1) (by omega) (by omega) (weakS_mk [some 0] rfl ?_ (by simp -dsimp -implicitDefEqProofs (disch := omega) [go_sem, -List.getD_eq_getElem?_getD, ite_yes, ht]))
      simp -dsimp -implicitDefEqProofs (disch := omega) [go_sem, -List.getD_eq_getElem?_getD, ite_yes]
      exact .inl ⟨sc.symm, by rw [sc]; exact vlE_flat _⟩
  · obtain rfl : k = l.length := by omega
    simp -dsimp -implicitDefEqProofs (disch := omega) [go_sem, -List.getD_eq_getElem?_getD, ite_yes, hlt]
    refine fin_list [some 0] rfl ?_ (by simp -dsimp -implicitDefEqProofs (disch := omega) [go_sem, -List.getD_eq_getElem?_getD, ite_yes])
    simp -dsimp -implicitDefEqProofs (disch := omega) [go_sem, -List.getD_eq_getElem?_getD, ite_yes]
    exact .inl ⟨rfl, vlE_flat _⟩
theorem harmOf_A (n : Int) (ps : List Pp) (cp : Nat) (l : List Vl) (hg : goodV n ps l = true) (c : Nat) (src : Int) (hsrc : 1 ≤ src ∧ src ≤ n) (cu : List Int) (hcu : custOk n cu = true) (d : Nat) (H : Heap) (tp t w : Nat) (hP : Sl ppE H tp ps) (hS : Sl vlE H t l) (hC : Sl nmE H w cu) :
    AFunC Try.prog 92 [netV n tp ps.length cp, .slice (some ⟨t, 0, none⟩) l.length c, .int .i64 src, .slice none 0 0, .slice (some ⟨w, 0, none⟩) cu.length d] H (.int .i64 (harmTo (wetR ps l src) cu n.toNat)) H := by
  refine AFunC.of_body Try.func92 (by kernel_rfl) rfl (by kernel_rfl) (by simp [Try.ntmps92]) ?_
  have htp := hP.lt
  have ht := hS.lt
  have hw := hC.lt
  obtain ⟨hN, hl⟩ := goodV_net hg
  have hpl := hN.f_len
  have hn := hN.f_n
  obtain ⟨hcl, hcr⟩ := custOk_at hcu
  have cc := fun k hk => hC.one (g := fun n => Value.int .i64 n) 0 k hk
  have A := watered_A n ps cp l hg 0 src hsrc
  have hRl := wetR_length hN l src
  generalize wetR ps l src = R at *
  simp -dsimp -implicitDefEqProofs (disch := omega) [go_sem, -List.getD_eq_getElem?_getD, ite_yes, htp, ht, hw]
  refine ADraw.mid [(4, .slice (some ⟨w, 0, none⟩) cu.length d), (11, .pointer (some ⟨H.length, 0, none⟩)), (12, .int .i64 0)] (H ++ [some ⟨R.map .bool, true, 124, 1⟩]) ?_ ?_
  · skip
    refine ADraw.any H (by kernel_rfl) (by first | exact SubH.refl | exact SubH.app | exact SubH.both (by simp [subL])) ?_
    refine AAny.takes (fuel := 5) (by kernel_rfl) (by kernel_rfl) [1, 2, 4] (by kernel_rfl) (by kernel_rfl) ?_
    simp -dsimp -implicitDefEqProofs (disch := omega) [go_sem, -List.getD_eq_getElem?_getD, ite_yes, htp, ht, hw]
    refine AAny.two 4 0 3 (by kernel_rfl) (by kernel_rfl) (by kernel_rfl) ?_ ?_
    · simp -dsimp -implicitDefEqProofs (disch := omega) [go_sem, -List.getD_eq_getElem?_getD, ite_yes, htp, ht, hw]
      first | refine AAt.of (by first | exact SubH.refl | exact SubH.app | exact SubH.both (by simp [subL])) ?_ | (refine ⟨?_, AAt.of (by first | exact SubH.refl | exact SubH.app | exact SubH.both (by simp [subL])) ?_⟩; · omega)
      refine AAny.one 3 3 (by kernel_rfl) (by kernel_rfl) (by kernel_rfl) ?_
      simp -dsimp -implicitDefEqProofs (disch := omega) [go_sem, -List.getD_eq_getElem?_getD, ite_yes, htp, ht, hw]
      refine ACall.of (shutTooNil_A l (by omega) c _ t hS.app) ?_
      simp -dsimp -implicitDefEqProofs (disch := omega) [go_sem, -List.getD_eq_getElem?_getD, ite_yes, htp, ht, hw]
      first | refine AAt.of (by first | exact SubH.refl | exact SubH.app | exact SubH.both (by simp [subL])) ?_ | (refine ⟨?_, AAt.of (by first | exact SubH.refl | exact SubH.app | exact SubH.both (by simp [subL])) ?_⟩; · omega)
      refine AAny.one 2 5 (by kernel_rfl) (by kernel_rfl) (by kernel_rfl) ?_
      simp -dsimp -implicitDefEqProofs (disch := omega) [go_sem, -List.getD_eq_getElem?_getD, ite_yes, htp, ht, hw]
      refine ACall.of (A _ tp (H.length + 1) hP.app (Sl.of1 rfl)) ?_
      simp -dsimp -implicitDefEqProofs (disch := omega) [go_sem, -List.getD_eq_getElem?_getD, ite_yes, htp, ht, hw]
      first | refine AAt.of (by first | exact SubH.refl | exact SubH.app | exact SubH.both (by simp [subL])) ?_ | (refine ⟨?_, AAt.of (by first | exact SubH.refl | exact SubH.app | exact SubH.both (by simp [subL])) ?_⟩; · omega)
      refine AAny.takes (fuel := 0) (by kernel_rfl) (by kernel_rfl) [6, 7] (by kernel_rfl) (by kernel_rfl) ?_
      simp -dsimp -implicitDefEqProofs (disch := omega) [go_sem, -List.getD_eq_getElem?_getD, ite_yes, htp, ht, hw]
      refine AAny.done (by kernel_rfl) ?_
      simp -dsimp -implicitDefEqProofs (disch := omega) [go_sem, -List.getD_eq_getElem?_getD, ite_yes, htp, ht, hw]
      exact ⟨weakS_mk [some 2] rfl (by simp -dsimp -implicitDefEqProofs (disch := omega) [go_sem, -List.getD_eq_getElem?_getD, ite_yes]; exact .inl ⟨rfl, bl_flat _⟩) (by simp -dsimp -implicitDefEqProofs (disch := omega) [go_sem, -List.getD_eq_getElem?_getD, ite_yes, hw])⟩
    · simp -dsimp -implicitDefEqProofs (disch := omega) [go_sem, -List.getD_eq_getElem?_getD, ite_yes, htp, ht, hw]
      refine ACall.of (shutTooNil_A l (by omega) c _ t hS.app) ?_
      simp -dsimp -implicitDefEqProofs (disch := omega) [go_sem, -List.getD_eq_getElem?_getD, ite_yes, htp, ht, hw]
      first | refine AAt.of (by first | exact SubH.refl | exact SubH.app | exact SubH.both (by simp [subL])) ?_ | (refine ⟨?_, AAt.of (by first | exact SubH.refl | exact SubH.app | exact SubH.both (by simp [subL])) ?_⟩; · omega)
      refine AAny.one 3 0 (by kernel_rfl) (by kernel_rfl) (by kernel_rfl) ?_
      simp -dsimp -implicitDefEqProofs (disch := omega) [go_sem, -List.getD_eq_getElem?_getD, ite_yes, htp, ht, hw]
      first | refine AAt.of (by first | exact SubH.refl | exact SubH.app | exact SubH.both (by simp [subL])) ?_ | (refine ⟨?_, AAt.of (by first | exact SubH.refl | exact SubH.app | exact SubH.both (by simp [subL])) ?_⟩; · omega)
      refine AAny.one 2 5 (by kernel_rfl) (by kernel_rfl) (by kernel_rfl) ?_
      simp -dsimp -implicitDefEqProofs (disch := omega) [go_sem, -List.getD_eq_getElem?_getD, ite_yes, htp, ht, hw]
      refine ACall.of (A _ tp (H.length + 1) hP.app (Sl.of1 rfl)) ?_
      simp -dsimp -implicitDefEqProofs (disch := omega) [go_sem, -List.getD_eq_getElem?_getD, ite_yes, htp, ht, hw]
      first | refine AAt.of (by first | exact SubH.refl | exact SubH.app | exact SubH.both (by simp [subL])) ?_ | (refine ⟨?_, AAt.of (by first | exact SubH.refl | exact SubH.app | exact SubH.both (by simp [subL])) ?_⟩; · omega)
      refine AAny.takes (fuel := 0) (by kernel_rfl) (by kernel_rfl) [6, 7] (by kernel_rfl) (by kernel_rfl) ?_
      simp -dsimp -implicitDefEqProofs (disch := omega) [go_sem, -List.getD_eq_getElem?_getD, ite_yes, htp, ht, hw]
      refine AAny.done (by kernel_rfl) ?_
      simp -dsimp -implicitDefEqProofs (disch := omega) [go_sem, -List.getD_eq_getElem?_getD, ite_yes, htp, ht, hw]
      exact ⟨weakS_mk [some 2] rfl (by simp -dsimp -implicitDefEqProofs (disch := omega) [go_sem, -List.getD_eq_getElem?_getD, ite_yes]; exact .inl ⟨rfl, bl_flat _⟩) (by simp -dsimp -implicitDefEqProofs (disch := omega) [go_sem, -List.getD_eq_getElem?_getD, ite_yes, hw])⟩
  simp -dsimp -implicitDefEqProofs (disch := omega) [go_sem, -List.getD_eq_getElem?_getD, ite_yes, hw]
  refine ALoop.intro (ι := Nat) (fun k => k ≤ cu.length) (fun k => [(11, .pointer (some ⟨H.length, 0, none⟩)), (12, .int .i64 (harmTo R cu k)), (21, .slice (some ⟨w, 0, none⟩) cu.length d), (22, .int .i64 cu.length), (23, .int .i64 k)]) (fun _ => H ++ [some ⟨R.map .bool, true, 124, 1⟩]) (fun k => cu.length - k) 0 (by omega) ?_ ?_
  · refine weakS_mk [some 0] rfl ?_ (by simp -dsimp -implicitDefEqProofs (disch := omega) [go_sem, -List.getD_eq_getElem?_getD, ite_yes, hw, harmTo])
    simp -dsimp -implicitDefEqProofs (disch := omega) [go_sem, -List.getD_eq_getElem?_getD, ite_yes]
    exact .inl ⟨rfl, bl_flat _⟩
  intro k hk
  by_cases hlt : k < cu.length
  · have c1 := cc k hlt
    have hk1 : ((k : Int) + 1).toNat = k + 1 := by omega
    have hk19 : k + 1 < 19 := by omega
    have hkn : (k : Int) + 1 < 19 := by omega
    have c2 := bl_cell R (q := k + 1) (by omega)
    have e : harmTo R cu (k + 1) = if R.getD (k + 1) false then harmTo R cu k else harmTo R cu k + cu.getD k 0 := rfl
    have b1 := harmTo_rng (R := R) hcr k
    have b2 := hcr k
    have hmap : (R.map Value.bool).length = 19 := by rw [List.length_map, hRl]
    cases hh : R.getD (k + 1) false <;> rw [hh] at c2 e
    · simp only [Bool.false_eq_true, if_false] at e
      simp -dsimp -implicitDefEqProofs (disch := omega) [go_sem, -List.getD_eq_getElem?_getD, ite_yes, hlt, hw, c1, hk1, hk19, hkn, hmap, hRl, c2]
      refine LoopEnd.of (k + 1) (by omega) (by omega) (weakS_mk [some 0] rfl ?_ (by simp -dsimp -implicitDefEqProofs (disch := omega) [go_sem, -List.getD_eq_getElem?_getD, ite_yes, hw, e]))
      simp -dsimp -implicitDefEqProofs (disch := omega) [go_sem, -List.getD_eq_getElem?_getD, ite_yes]
      exact .inl ⟨rfl, bl_flat _⟩
    · rw [if_pos rfl] at e
      simp -dsimp -implicitDefEqProofs (disch := omega) [go_sem, -List.getD_eq_getElem?_getD, ite_yes, hlt, hw, c1, hk1, hk19, hkn, hmap, hRl, c2]
      refine LoopEnd.of (k + 1) (by omega) (by omega) (weakS_mk [some 0] rfl ?_ (by simp -dsimp -implicitDefEqProofs (disch := omega) [go_sem, -List.getD_eq_getElem?_getD, ite_yes, hw, e]))
      simp -dsimp -implicitDefEqProofs (disch := omega) [go_sem, -List.getD_eq_getElem?_getD, ite_yes]
      exact .inl ⟨rfl, bl_flat _⟩
  · obtain rfl : k = cu.length := by omega
    have : n.toNat = cu.length := by omega
    simp -dsimp -implicitDefEqProofs (disch := omega) [go_sem, -List.getD_eq_getElem?_getD, ite_yes, hlt]
    exact fin_flat rfl (by rw [this])
end Go.Proofs.Ytaehphcaiabdmaa
