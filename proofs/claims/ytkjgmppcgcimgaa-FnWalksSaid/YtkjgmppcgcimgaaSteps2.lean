/- Steps between nodes: the queue. -/
import Derived.Test.YtkjgmppcgcimgaaSteps
import Derived.Test.YtkjgmppcgcimgaaHas
import Derived.Test.YtkjgmppcgcimgaaAm18
namespace Go.Proofs.Ytkjgmppcgcimgaa
open Go.Am
set_option linter.unusedVariables false
set_option linter.unusedSimpArgs false
set_option maxRecDepth 100000
set_option maxHeartbeats 2000000

theorem repx_zero (n : Nat) : List.replicate n (Value.int .i64 0) = (List.replicate n (0 : Int)).flatMap nmE := by
  induction n with
  | zero => rfl
  | succ n ih => rw [List.replicate_succ, List.replicate_succ, List.flatMap_cons, ← ih]; rfl
theorem nmx_cell (s : List Int) {q : Nat} (hq : q < s.length) : List.take 1 (List.drop q (s.flatMap nmE)) = [.int .i64 (s.getD q 0)] := by
  have := flatMap_cells nmE 1 (fun _ => rfl) 0 s q hq
  rwa [Nat.mul_one] at this
theorem nmx_set (s : List Int) (x : Int) {q : Nat} (hq : q < s.length) : (s.flatMap nmE).set q (.int .i64 x) = (s.set q x).flatMap nmE := by
  have := set_cell (f := nmE) (s := 1) (fun _ => rfl) x 0 hq (j := 0) (by omega) (v := .int .i64 x) rfl
  rwa [Nat.mul_one, Nat.add_zero] at this
def fillN (n k : Nat) : List Int := List.replicate k (-1) ++ List.replicate (n - k) 0
theorem fillN_length {n k : Nat} (h : k ≤ n) : (fillN n k).length = n := by simp [fillN]; omega
theorem fillN_set {n k : Nat} (h : k < n) : (fillN n k).set k (-1) = fillN n (k + 1) := by
  unfold fillN
  obtain ⟨j, hj⟩ : ∃ j, n - k = j + 1 := ⟨n - k - 1, by omega⟩
  have e : n - (k + 1) = j := by omega
  rw [hj, e, List.set_append_right _ _ (by simp), List.length_replicate, Nat.sub_self, List.replicate_succ, List.set_cons_zero, List.replicate_succ', List.append_assoc, List.singleton_append]
theorem fillN_all (n : Nat) : fillN n n = List.replicate n (-1) := by simp [fillN]
def distL (n : Nat) (ps : List Pp) (src : Int) : List Int := (List.range (n + 1)).map fun v : Nat => distN n ps src v
theorem distL_length (n : Nat) (ps : List Pp) (src : Int) : (distL n ps src).length = n + 1 := by simp [distL]
def startD (n : Nat) (src : Int) : List Int := (List.replicate (n + 1) (-1)).set src.toNat 0
theorem startD_known {n : Nat} {src : Int} (hs : 1 ≤ src ∧ src ≤ n) : known (startD n src) = 1 := by
  unfold startD
  rw [known_set (by simp; omega) (by rw [List.getD_eq_getElem?_getD, List.getElem?_replicate, if_pos (by omega)]; exact (by decide : (-1 : Int) < 0)) (Int.le_refl _)]
  have : known (List.replicate (n + 1) (-1)) = 0 := by simp [known, List.countP_replicate]
  omega
theorem Bfs.start {n : Nat} {ps : List Pp} {src : Int} (hs : 1 ≤ src ∧ src ≤ n) : Bfs n ps src (startD n src) [src] := by
  have hl : src.toNat < (List.replicate (n + 1) (-1 : Int)).length := by simp; omega
  have g : ∀ j : Nat, j ≤ n → (startD n src).getD j 0 = if src.toNat = j then 0 else -1 := fun j hj => by
    unfold startD
    rw [getD_setI hl]
    split
    · rfl
    · rw [List.getD_eq_getElem?_getD, List.getElem?_replicate, if_pos (by omega)]; rfl
  refine ⟨by simp [startD], by rw [g _ (by omega), if_pos rfl], fun v hv => ?_, fun y hy => ?_, List.pairwise_singleton _ _, fun x r e y hy => ?_, fun u h1 h2 h3 => ?_, fun v hv => ?_⟩
  · rw [g v hv]
    by_cases e : src.toNat = v
    · right
      refine ⟨0, by rw [if_pos e]; rfl, ?_, fun j hj => absurd hj (Nat.not_lt_zero _)⟩
      rw [rB]; exact decide_eq_true (by omega)
    · left; rw [if_neg e]
  · rw [List.mem_singleton] at hy
    subst hy
    exact ⟨hs.1, hs.2, by rw [g _ (by omega), if_pos rfl]; exact Int.le_refl _⟩
  · simp only [List.cons.injEq] at e
    rw [List.mem_singleton] at hy
    rw [hy, ← e.1]; omega
  · rw [g _ (by omega)] at h3
    split at h3
    · left; rw [List.mem_singleton]; omega
    · omega
  · rw [g v hv, startD_known hs]
    split <;> omega
def SeenTo (ps : List Pp) (x : Int) (e : List Int) (k : Nat) : Prop := ∀ j, j < k → ∀ v, otherOf (ps.getD j pp0) x = v → 0 < v → 0 ≤ e.getD v.toNat 0
def qCells (pre q : List Int) : List Value := (pre ++ q).flatMap nmE
theorem qCells_length (pre q : List Int) : (qCells pre q).length = pre.length + q.length := by rw [qCells, nmE_length, List.length_append, Nat.mul_one]
theorem qCells_head (pre q : List Int) (x : Int) : List.take 1 (List.drop pre.length (qCells pre (x :: q))) = [.int .i64 x] := by
  rw [qCells, nmx_cell _ (by simp)]
  simp
theorem qCells_drop (pre q : List Int) : List.drop pre.length (qCells pre q) = q.flatMap nmE := by
  have h := nmE_length pre
  rw [Nat.mul_one] at h
  rw [qCells, List.flatMap_append, List.drop_left' h]
theorem qCells_flat (pre q : List Int) : (qCells pre q).all flat = true := nmE_flat _
theorem qCells_snoc (pre q : List Int) (x : Int) : qCells (pre ++ [x]) q = qCells pre (x :: q) := by rw [qCells, qCells, List.append_assoc]; rfl
theorem distances_A (n : Nat) (ps : List Pp) (hN : NetAt n ps) (src : Int) (hs : 1 ≤ src ∧ src ≤ n) (cp : Nat) (H : Heap) (tp : Nat) (hP : Sl ppE H tp ps) :
    AFunC Try.prog 59 [netV n tp ps.length cp, .int .i64 src, .int .i64 0] H (.slice (some ⟨H.length, 0, none⟩) (n + 1) (n + 1)) (H ++ [some ⟨(distL n ps src).flatMap nmE, true, 3, 1⟩]) := by
  refine AFunC.of_body Try.func59 (by kernel_rfl) rfl (by kernel_rfl) (by simp [Try.ntmps59]) ?_
  have htp := hP.lt
  have hn8 := hN.f_n
  have hm := hN.f_len
  have cp4 := fun k hk => hP.cells (s := 4) (fun _ => rfl) pp0 k hk
  have cp0 := fun k hk => hP.cell (s := 4) (fun _ => rfl) pp0 k 0 hk (by omega)
  simp only [ppE, Nat.add_zero] at cp4 cp0
  obtain ⟨s, rfl⟩ : ∃ s : Nat, src = (s : Int) := ⟨src.toNat, by omega⟩
  have hs1 : 1 ≤ s := by omega
  have hs2 : s ≤ n := by omega
  have hn1 : ((n : Int) + 1).toNat = n + 1 := by omega
  simp -dsimp -implicitDefEqProofs (disch := omega) [go_sem, -List.getD_eq_getElem?_getD, ite_yes, htp, hn1]
  refine ⟨by omega, ?_⟩
  refine ALoop.intro (ι := Nat) (fun k => k ≤ n + 1) (fun k => [(1, .int .i64 s), (2, .int .i64 0), (3, .pointer (some ⟨H.length, 0, none⟩)), (7, .slice (some ⟨H.length + 1, 0, none⟩) (n + 1) (n + 1)), (18, .int .i64 ((n : Int) + 1)), (19, .int .i64 k)])
    (fun k => H ++ [some ⟨[.int .i64 n, .slice (some ⟨tp, 0, none⟩) ps.length cp], true, 32, 1⟩, some ⟨(fillN (n + 1) k).flatMap nmE, true, 3, 1⟩]) (fun k => n + 1 - k) 0 (by omega) ?_ ?_
  · refine weakS_mk [some 0, some 1] rfl ?_ (by simp -dsimp -implicitDefEqProofs (disch := omega) [go_sem, -List.getD_eq_getElem?_getD, ite_yes, htp])
    simp -dsimp -implicitDefEqProofs (disch := omega) [go_sem, -List.getD_eq_getElem?_getD, ite_yes, htp]
    exact ⟨wl_net htp, .inl ⟨by rw [repx_zero]; rfl, by simp [flat]⟩⟩
  intro k hk
  by_cases hlt : k < n + 1
  · have hki : (k : Int) < (n : Int) + 1 := by omega
    have fl := fillN_length hk
    have st := nmx_set (fillN (n + 1) k) (-1) (q := k) (by omega)
    rw [fillN_set hlt] at st
    have lf : ((fillN (n + 1) k).flatMap nmE).length = n + 1 := by rw [nmE_length, fl, Nat.mul_one]
    simp -dsimp -implicitDefEqProofs (disch := omega) [go_sem, -List.getD_eq_getElem?_getD, ite_yes, hki, hlt, lf, htp]
    refine LoopEnd.of (k + 1) (by omega) (by omega) (weakS_mk [some 0, some 1] rfl ?_ (by simp -dsimp -implicitDefEqProofs (disch := omega) [go_sem, -List.getD_eq_getElem?_getD, ite_yes, htp]))
    simp -dsimp -implicitDefEqProofs (disch := omega) [go_sem, -List.getD_eq_getElem?_getD, ite_yes, htp]
    exact ⟨wl_net htp, .inl ⟨st.symm, (congrArg (fun x => List.all x flat) st).trans (nmE_flat _)⟩⟩
  obtain rfl : k = n + 1 := by omega
  have hki : ¬ ((n : Int) + 1 < (n : Int) + 1) := by omega
  rw [fillN_all]
  have st := nmx_set (List.replicate (n + 1) (-1)) 0 (q := s) (by simp; omega)
  have lf : ((List.replicate (n + 1) (-1 : Int)).flatMap nmE).length = n + 1 := by rw [nmE_length, List.length_replicate, Nat.mul_one]
  have hsn : s < n + 1 := by omega
  have est : (List.replicate (n + 1) (-1)).set s 0 = startD n s := by rw [startD, Int.toNat_natCast]
  rw [est] at st
  simp -dsimp -implicitDefEqProofs (disch := omega) [go_sem, -List.getD_eq_getElem?_getD, ite_yes, hki, hsn, lf, htp]
  refine ALoop.intro (ι := List Int × List Int × List Int) (fun q => Bfs n ps s q.1 q.2.2 ∧ q.2.2.length ≤ known q.1) (fun q => [(2, .int .i64 0), (3, .pointer (some ⟨H.length, 0, none⟩)), (7, .slice (some ⟨H.length + 1, 0, none⟩) (n + 1) (n + 1)), (9, .slice (some ⟨H.length + 2, q.2.1.length, none⟩) q.2.2.length q.2.2.length)])
    (fun q => H ++ [some ⟨[.int .i64 n, .slice (some ⟨tp, 0, none⟩) ps.length cp], true, 32, 1⟩, some ⟨q.1.flatMap nmE, true, 3, 1⟩, some ⟨qCells q.2.1 q.2.2, true, 3, 1⟩]) (fun q => 2 * (n + 1 - known q.1) + q.2.2.length) (startD n s, [], [(s : Int)]) ⟨Bfs.start hs, by rw [startD_known hs]; exact Nat.le_refl _⟩ ?_ ?_
  · refine weakS_mk [some 0, some 1, some 2] rfl ?_ (by simp -dsimp -implicitDefEqProofs (disch := omega) [go_sem, -List.getD_eq_getElem?_getD, ite_yes, htp])
    simp -dsimp -implicitDefEqProofs (disch := omega) [go_sem, -List.getD_eq_getElem?_getD, ite_yes, htp]
    exact ⟨wl_net htp, .inl ⟨st.symm, (congrArg (fun x => List.all x flat) st).trans (nmE_flat _)⟩, .inl ⟨rfl, rfl⟩⟩
  rintro ⟨d, pre, q⟩ ⟨hB, hkn⟩
  have hkd := known_le d
  rw [hB.len] at hkd
  simp only at hkn
  cases q with
  | nil =>
    have hd := hB.end_ hN hs
    simp -dsimp -implicitDefEqProofs (disch := omega) [go_sem, -List.getD_eq_getElem?_getD, ite_yes, htp]
    refine fin_list [some 1] rfl ?_ (by simp -dsimp -implicitDefEqProofs (disch := omega) [go_sem, -List.getD_eq_getElem?_getD, ite_yes, htp])
    simp -dsimp -implicitDefEqProofs (disch := omega) [go_sem, -List.getD_eq_getElem?_getD, ite_yes]
    exact .inl ⟨congrArg (List.flatMap nmE) hd.symm, nmE_flat d⟩
  | cons x r =>
  have hx := hB.inq x (List.mem_cons_self ..)
  obtain ⟨y, rfl⟩ : ∃ y : Nat, x = (y : Int) := ⟨x.toNat, by omega⟩
  have hr0 : 0 < r.length + 1 := by omega
  simp -dsimp -implicitDefEqProofs (disch := omega) [go_sem, -List.getD_eq_getElem?_getD, ite_yes, hr0, htp]
  refine ALoop.intro (ι := (List Int × List Int) × List Int × Nat) (fun i => (Bfs n ps s i.1.1 ((y : Int) :: i.2.1) ∧ i.2.1.length + 1 ≤ known i.1.1) ∧ (i.2.2 ≤ ps.length ∧ SeenTo ps y i.1.1 i.2.2) ∧ 2 * (n + 1 - known i.1.1) + i.2.1.length ≤ 2 * (n + 1 - known d) + r.length)
    (fun i => [(2, .int .i64 0), (3, .pointer (some ⟨H.length, 0, none⟩)), (7, .slice (some ⟨H.length + 1, 0, none⟩) (n + 1) (n + 1)), (9, .slice (some ⟨H.length + 2, i.1.2.length, none⟩) (i.2.1.length + 1) (i.2.1.length + 1)), (37, .slice (some ⟨tp, 0, none⟩) ps.length cp), (38, .int .i64 ps.length), (39, .int .i64 i.2.2)])
    (fun i => H ++ [some ⟨[.int .i64 n, .slice (some ⟨tp, 0, none⟩) ps.length cp], true, 32, 1⟩, some ⟨i.1.1.flatMap nmE, true, 3, 1⟩, some ⟨qCells i.1.2 ((y : Int) :: i.2.1), true, 3, 1⟩]) (fun i => ps.length - i.2.2) ((d, pre), r, 0) ⟨⟨hB, hkn⟩, ⟨Nat.zero_le _, fun j hj => absurd hj (Nat.not_lt_zero _)⟩, Nat.le_refl _⟩ ?_ ?_
  · refine weakS_mk [some 0, some 1, some 2] rfl ?_ (by simp -dsimp -implicitDefEqProofs (disch := omega) [go_sem, -List.getD_eq_getElem?_getD, ite_yes, htp])
    simp -dsimp -implicitDefEqProofs (disch := omega) [go_sem, -List.getD_eq_getElem?_getD, ite_yes, htp]
    exact ⟨wl_net htp, .inl ⟨rfl, nmE_flat _⟩, .inl ⟨rfl, qCells_flat _ _⟩⟩
  rintro ⟨⟨e, pr⟩, w, k⟩ ⟨⟨hB, hkn⟩, ⟨hk, hbe⟩, hme⟩
  simp only at hB hkn hk hbe hme
  have hle := hB.len
  have lq : (qCells pr ((y : Int) :: w)).length = pr.length + (w.length + 1) := qCells_length pr ((y : Int) :: w)
  have qh := qCells_head pr w y
  have qf := qCells_flat pr ((y : Int) :: w)
  by_cases hlt : k < ps.length
  rotate_left
  · obtain rfl : k = ps.length := by omega
    simp -dsimp -implicitDefEqProofs (disch := omega) [go_sem, -List.getD_eq_getElem?_getD, ite_yes, htp, lq]
    have hBp := hB.pop hbe
    have e1 : (pr ++ [(y : Int)]).length = pr.length + 1 := by simp
    refine LoopEnd.of (e, pr ++ [(y : Int)], w) ⟨hBp, by simp only; omega⟩ (by simp only [List.length_cons]; omega) (weakS_mk [some 0, some 1, some 2] rfl ?_ (by simp -dsimp -implicitDefEqProofs (disch := omega) [go_sem, -List.getD_eq_getElem?_getD, ite_yes, htp, e1]))
    simp -dsimp -implicitDefEqProofs (disch := omega) [go_sem, -List.getD_eq_getElem?_getD, ite_yes, htp]
    exact ⟨wl_net htp, .inl ⟨rfl, nmE_flat _⟩, .inl ⟨qCells_snoc _ _ _, qf⟩⟩
  have hk4 := cp4 k hlt
  have hk0 := cp0 k hlt
  have hyl : y < n + 1 := by omega
  have le : (e.flatMap nmE).length = n + 1 := by rw [nmE_length, hle, Nat.mul_one]
  obtain ⟨o, ho⟩ : ∃ o, otherOf (ps.getD k pp0) (y : Int) = o := ⟨_, rfl⟩
  have hid := hN.f_id k hlt
  have hid0 : ¬ (ps.getD k pp0).1 = 0 := by omega
  have hkeep : (0 < o → 0 ≤ e.getD o.toNat 0) → SeenTo ps y e (k + 1) := fun h j hj v hv hv0 => by
    rcases Nat.lt_or_ge j k with hjk | hjk
    · exact hbe j hjk v hv hv0
    · obtain rfl : j = k := by omega
      rw [ho] at hv; rw [← hv] at hv0 ⊢; exact h hv0
  simp -dsimp -implicitDefEqProofs (disch := omega) [go_sem, -List.getD_eq_getElem?_getD, ite_yes, hlt, hk4, htp]
  refine ADraw.quiet (by kernel_rfl) (by kernel_rfl) (by kernel_rfl) ?_
  simp -dsimp -implicitDefEqProofs (disch := omega) [go_sem, -List.getD_eq_getElem?_getD, ite_yes, hlt, hk4, htp, lq, qh]
  refine ACallQ.of (other_A (ps.getD k pp0) y _) rfl ?_
  rw [ho]
  by_cases h0 : 0 < o
  rotate_left
  · simp -dsimp -implicitDefEqProofs (disch := omega) [go_sem, -List.getD_eq_getElem?_getD, ite_yes, htp, h0]
    refine LoopEnd.of ((e, pr), w, k + 1) ⟨⟨hB, hkn⟩, ⟨by simp only; omega, hkeep fun h => absurd h h0⟩, hme⟩ (by simp only; omega) (weakS_mk [some 0, some 1, some 2] rfl ?_ (by simp -dsimp -implicitDefEqProofs (disch := omega) [go_sem, -List.getD_eq_getElem?_getD, ite_yes, htp]))
    simp -dsimp -implicitDefEqProofs (disch := omega) [go_sem, -List.getD_eq_getElem?_getD, ite_yes, htp]
    exact ⟨wl_net htp, .inl ⟨rfl, nmE_flat _⟩, .inl ⟨rfl, qf⟩⟩
  have hor := other_rng hN hlt y
  rw [ho] at hor
  obtain ⟨u, hu⟩ : ∃ u : Nat, o = (u : Int) := ⟨o.toNat, by omega⟩
  have hul : u < n + 1 := by omega
  have hu0 : 0 < u := by omega
  have cu := nmx_cell e (q := u) (by omega)
  have cy := nmx_cell e (q := y) (by omega)
  by_cases hd : e.getD u 0 < 0
  rotate_left
  · simp -dsimp -implicitDefEqProofs (disch := omega) [go_sem, -List.getD_eq_getElem?_getD, ite_yes, htp, hu, hu0, hid0, hul, le, cu, hd]
    refine LoopEnd.of ((e, pr), w, k + 1) ⟨⟨hB, hkn⟩, ⟨by simp only; omega, hkeep fun h => by rw [hu, Int.toNat_natCast]; omega⟩, hme⟩ (by simp only; omega) (weakS_mk [some 0, some 1, some 2] rfl ?_ (by simp -dsimp -implicitDefEqProofs (disch := omega) [go_sem, -List.getD_eq_getElem?_getD, ite_yes, htp]))
    simp -dsimp -implicitDefEqProofs (disch := omega) [go_sem, -List.getD_eq_getElem?_getD, ite_yes, htp]
    exact ⟨wl_net htp, .inl ⟨rfl, nmE_flat _⟩, .inl ⟨rfl, qf⟩⟩
  obtain ⟨hF, hFk⟩ := hB.found hN hs hlt ho h0 (by rw [hu, Int.toNat_natCast]; exact hd)
  rw [hu, Int.toNat_natCast, Int.toNat_natCast] at hF hFk
  have su := nmx_set e (e.getD y 0 + 1) (q := u) (by omega)
  have qd := qCells_drop pr ((y : Int) :: w)
  have hyc := hB.cnt y (by omega)
  have hkd2 := known_le e
  have hy0 := (hB.inq (y : Int) (List.mem_cons_self ..)).2.2
  rw [Int.toNat_natCast] at hy0
  rw [hle] at hkd2
  have hkd3 := known_le (e.set u (e.getD y 0 + 1))
  rw [hF.len] at hkd3
  simp -dsimp -implicitDefEqProofs (disch := omega) [go_sem, -List.getD_eq_getElem?_getD, ite_yes, htp, hu, hu0, hid0, hul, le, cu, hd, lq, qh, cy, hyl, su]
  have e1 : (w ++ [(u : Int)]).length = w.length + 1 := by simp
  have hc : ∀ v : Nat, 0 ≤ e.getD v 0 → 0 ≤ (e.set u (e.getD y 0 + 1)).getD v 0 := fun v hv' => by rw [getD_setI (by omega)]; split <;> omega
  have hseen : SeenTo ps y (e.set u (e.getD y 0 + 1)) (k + 1) := fun j hj v hv hv0 => by
    rcases Nat.lt_or_ge j k with hjk | hjk
    · exact hc _ (hbe j hjk v hv hv0)
    · obtain rfl : j = k := by omega
      obtain rfl : v = (u : Int) := hv.symm.trans (ho.trans hu)
      rw [Int.toNat_natCast, getD_setI (by omega), if_pos rfl]; omega
  refine ⟨by omega, LoopEnd.of ((e.set u (e.getD y 0 + 1), []), w ++ [(u : Int)], k + 1) ⟨⟨hF, by simp only [e1]; omega⟩, ⟨by simp only; omega, hseen⟩, by simp only [e1]; omega⟩ (by simp only; omega) (weakS_mk [some 0, some 1, some 5] rfl ?_ (by simp -dsimp -implicitDefEqProofs (disch := omega) [go_sem, -List.getD_eq_getElem?_getD, ite_yes, htp, e1]))⟩
  simp -dsimp -implicitDefEqProofs (disch := omega) [go_sem, -List.getD_eq_getElem?_getD, ite_yes, htp]
  have e3 : qCells [] ((y : Int) :: (w ++ [(u : Int)])) = List.drop pr.length (qCells pr ((y : Int) :: w)) ++ [Value.int .i64 (u : Int)] := by rw [qCells_drop, qCells, List.nil_append, ← List.cons_append, List.flatMap_append]; rfl
  exact ⟨wl_net htp, .inl ⟨rfl, nmE_flat _⟩, .inl ⟨e3, e3 ▸ qCells_flat _ _⟩⟩
end Go.Proofs.Ytkjgmppcgcimgaa
