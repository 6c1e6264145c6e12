/- What is reached in a network: the program's side. -/
import Derived.Test.YtamkdgjagjpmlaaValves
namespace Go.Proofs.Ytamkdgjagjpmlaa
open Go.Am
set_option linter.unusedVariables false
set_option linter.unusedSimpArgs false
set_option maxRecDepth 100000
set_option maxHeartbeats 2000000

/-- the elements, none of them reached -/
def zerosB : List Value := List.replicate 19 (.bool false)
theorem zerosB_eq : ([Value.bool false, Value.bool false, Value.bool false, Value.bool false, Value.bool false, Value.bool false, Value.bool false, Value.bool false, Value.bool false, Value.bool false, Value.bool false, Value.bool false, Value.bool false, Value.bool false, Value.bool false, Value.bool false, Value.bool false, Value.bool false, Value.bool false] : List Value) = zerosB := rfl
theorem zerosB_length : zerosB.length = 19 := rfl
theorem zerosB_start (s : Nat) : zerosB.set s (.bool true) = (start (s : Int)).map .bool := by
  rw [start, Int.toNat_natCast, List.map_set, List.map_replicate]; rfl
theorem bl_cell (s : List Bool) {q : Nat} (hq : q < s.length) : List.take 1 (List.drop q (s.map Value.bool)) = [.bool (s.getD q false)] := by
  rw [List.getD_eq_getElem?_getD, List.getElem?_eq_getElem hq]
  rw [List.drop_eq_getElem_cons (by simpa using hq)]
  simp
theorem bl_set (s : List Bool) (x : Bool) (q : Nat) : (s.map Value.bool).set q (.bool x) = (s.set q x).map Value.bool := by rw [List.map_set]
theorem bl_flat (s : List Bool) : (s.map Value.bool).all flat = true := by simp [flat]
theorem element_A (i : Nat) (hi : i < 10) (H : Heap) : AFunC Try.prog 56 [.int .i64 i] H (.int .i64 (9 + (i : Int))) H := by
  refine AFunC.of_body Try.func56 (by kernel_rfl) rfl (by kernel_rfl) (by simp [Try.ntmps56]) ?_
  simp -dsimp -implicitDefEqProofs (disch := omega) [go_sem, -List.getD_eq_getElem?_getD, ite_yes]
  exact fin_flat0 rfl rfl
theorem inP_length {n : Int} {ps : List Pp} (h : NetAt n ps) (op : Pp → Int → Bool) {W : List Bool} (hW : W.length = 19) {k : Nat} (hk : k < ps.length) (m : Nat) : (inP op (psTo op ps W k) k (ps.getD k pp0) m).1.length = 19 :=
  (inP_inv h op hW (psTo_inv h op hW k (by omega)) hk m).1.trans hW
theorem reached_A (n : Int) (ps : List Pp) (hN : NetAt n ps) (cp : Nat) (node : Int) (hnode : 1 ≤ node ∧ node ≤ n) (op : Pp → Int → Bool) (g : Nat) (cap : Array Value) (H : Heap) (tp : Nat) (hP : Sl ppE H tp ps) (Pre : Heap → Prop) (hpre : ∀ L, Pre (roH (H ++ L)))
    (hc : L2 (WMP (sg H.length []) H.length) cap.toList cap.toList) (hc0 : ∀ m, H.length ≤ m → ∀ js, L2 (WMP (sg H.length js) m) cap.toList cap.toList)
    (hp : ∀ K, Pre K → ∀ (p : Pp) (nd : Int), AFunC Try.prog g (.agg #[.int .i64 p.1, .int .i64 p.2.1, .int .i64 p.2.2.1, .int .i64 p.2.2.2] :: .int .i64 nd :: cap.toList) K (.bool (op p nd)) K) :
    AFunC Try.prog 43 [netV n tp ps.length cp, .int .i64 node, .func (.func g) #[] cap] H (.pointer (some ⟨H.length, 0, none⟩)) (H ++ [some ⟨(reach op ps node).map .bool, true, 85, 1⟩]) := by
  refine AFunC.of_body Try.func43 (by kernel_rfl) rfl (by kernel_rfl) (by simp [Try.ntmps43]) ?_
  have htp := hP.lt
  have hn := hN.f_n
  have hl := hN.f_len
  have cs := fun k hk => hP.cells (s := 4) (fun _ => rfl) pp0 k hk
  simp only [ppE] at cs
  obtain ⟨s, rfl⟩ : ∃ s : Nat, node = (s : Int) := ⟨node.toNat, by omega⟩
  have hs : s < 19 := by omega
  simp -dsimp -implicitDefEqProofs (disch := omega) [go_sem, -List.getD_eq_getElem?_getD, ite_yes, zerosB_eq, zerosB_length, htp, hs]
  generalize hR : reach op ps (s : Int) = R
  have hspr : Spr op ps (start (s : Int)) R := hR ▸ spr_reach hN op s
  refine ALoop.intro (ι := St) (fun st => st.1.length = 19 ∧ (st.2 = true → Spr op ps st.1 R) ∧ (st.2 = false → R = st.1)) (fun st => [(2, .func (.func g) #[] cap), (3, .pointer (some ⟨H.length, 0, none⟩)), (7, .pointer (some ⟨H.length + 1, 0, none⟩)), (8, .bool st.2)])
    (fun st => H ++ [some ⟨[.int .i64 n, .slice (some ⟨tp, 0, none⟩) ps.length cp], true, 34, 1⟩, some ⟨st.1.map .bool, true, 85, 1⟩]) (fun st => 2 * (19 - cnt st.1) + (if st.2 then 1 else 0)) (start (s : Int), true) ⟨start_length _, fun _ => hspr, fun h => by cases h⟩ ?_ ?_
  · refine weakS_mk [some 0, some 1] rfl ?_ (by simp -dsimp -implicitDefEqProofs (disch := omega) [go_sem, -List.getD_eq_getElem?_getD, ite_yes, htp]; exact hc0 _ (by omega) _)
    simp -dsimp -implicitDefEqProofs (disch := omega) [go_sem, -List.getD_eq_getElem?_getD, ite_yes, htp]
    exact ⟨wl_net htp, .inl ⟨(zerosB_start s).symm, by rw [zerosB_start]; exact bl_flat _⟩⟩
  rintro ⟨W, again⟩ ⟨hW, hI1, hI2⟩
  simp only at hW hI1 hI2
  cases again with
  | false =>
    simp -dsimp -implicitDefEqProofs (disch := omega) [go_sem, -List.getD_eq_getElem?_getD, ite_yes]
    refine fin_list [some 1] rfl ?_ (by simp -dsimp -implicitDefEqProofs (disch := omega) [go_sem, -List.getD_eq_getElem?_getD, ite_yes])
    simp -dsimp -implicitDefEqProofs (disch := omega) [go_sem, -List.getD_eq_getElem?_getD, ite_yes]
    exact .inl ⟨by rw [hI2 rfl], bl_flat _⟩
  | true =>
  simp -dsimp -implicitDefEqProofs (disch := omega) [go_sem, -List.getD_eq_getElem?_getD, ite_yes, htp]
  refine ALoop.intro (ι := Nat) (fun k => k ≤ ps.length) (fun k => [(2, .func (.func g) #[] cap), (3, .pointer (some ⟨H.length, 0, none⟩)), (7, .pointer (some ⟨H.length + 1, 0, none⟩)), (8, .bool (psTo op ps W k).2), (21, .slice (some ⟨tp, 0, none⟩) ps.length cp), (22, .int .i64 ps.length), (23, .int .i64 k)])
    (fun k => H ++ [some ⟨[.int .i64 n, .slice (some ⟨tp, 0, none⟩) ps.length cp], true, 34, 1⟩, some ⟨(psTo op ps W k).1.map .bool, true, 85, 1⟩]) (fun k => ps.length - k) 0 (by omega) ?_ ?_
  · refine weakS_mk [some 0, some 1] rfl ?_ (by simp -dsimp -implicitDefEqProofs (disch := omega) [go_sem, -List.getD_eq_getElem?_getD, ite_yes, htp, psTo]; exact hc0 _ (by omega) _)
    simp -dsimp -implicitDefEqProofs (disch := omega) [go_sem, -List.getD_eq_getElem?_getD, ite_yes, htp]
    exact ⟨wl_net htp, .inl ⟨rfl, bl_flat _⟩⟩
  intro k hk
  by_cases hlt : k < ps.length
  rotate_left
  · obtain rfl : k = ps.length := by omega
    have hinv := psTo_inv hN op hW ps.length (Nat.le_refl _)
    simp -dsimp -implicitDefEqProofs (disch := omega) [go_sem, -List.getD_eq_getElem?_getD, ite_yes, hlt]
    refine LoopEnd.of (pass op ps W) ⟨hinv.1.trans hW, fun h => (hI1 rfl).get_more h, fun h => (hI1 rfl).get_done h⟩ ?_ (weakS_mk [some 0, some 1] rfl ?_ (by simp -dsimp -implicitDefEqProofs (disch := omega) [go_sem, -List.getD_eq_getElem?_getD, ite_yes, htp]; exact ⟨hc0 (H.length + 2) (by omega) _, rfl⟩))
    · rcases hinv.2 with h | ⟨h, h'⟩
      · have e : pass op ps W = (W, false) := h
        rw [e]; simp
      · have e : pass op ps W = psTo op ps W ps.length := rfl
        have := cnt_le (psTo op ps W ps.length).1
        have := hinv.1
        rw [e, h]; simp only [if_true]; omega
    · simp -dsimp -implicitDefEqProofs (disch := omega) [go_sem, -List.getD_eq_getElem?_getD, ite_yes, htp]
      exact ⟨wl_net htp, .inl ⟨rfl, bl_flat _⟩⟩
  have hin : psTo op ps W (k + 1) = inP op (psTo op ps W k) k (ps.getD k pp0) 2 := rfl
  have hlen := fun m => inP_length hN op hW hlt m
  have hend := hN.f_end k hlt
  have cs' := cs k hlt
  obtain ⟨⟨p1, p2, p3, p4⟩, hpk⟩ : ∃ p, ps.getD k pp0 = p := ⟨_, rfl⟩
  simp only [hpk] at hin hlen hend cs'
  obtain ⟨a, rfl⟩ : ∃ a : Nat, p2 = (a : Int) := ⟨p2.toNat, by omega⟩
  obtain ⟨b, rfl⟩ : ∃ b : Nat, p3 = (b : Int) := ⟨p3.toNat, by omega⟩
  have i1 : ∀ s0 : St, inP op s0 k (p1, (a : Int), (b : Int), p4) 1 = stepAt (op (p1, (a : Int), (b : Int), p4) (a : Int)) (inP op s0 k (p1, (a : Int), (b : Int), p4) 0) a (9 + k) := fun s0 => rfl
  have i2 : ∀ s0 : St, inP op s0 k (p1, (a : Int), (b : Int), p4) 2 = stepAt (op (p1, (a : Int), (b : Int), p4) (b : Int)) (inP op s0 k (p1, (a : Int), (b : Int), p4) 1) b (9 + k) := fun s0 => rfl
  generalize psTo op ps W k = s0 at *
  simp -dsimp -implicitDefEqProofs (disch := omega) [go_sem, -List.getD_eq_getElem?_getD, ite_yes, hlt, cs', htp]
  refine ALoop.intro (ι := Nat) (fun m => m ≤ 2) (fun m => [(2, .func (.func g) #[] cap), (3, .pointer (some ⟨H.length, 0, none⟩)), (7, .pointer (some ⟨H.length + 1, 0, none⟩)), (8, .bool (inP op s0 k (p1, (a : Int), (b : Int), p4) m).2), (9, .int .i64 k), (10, .pointer (some ⟨H.length + 2, 0, none⟩)), (21, .slice (some ⟨tp, 0, none⟩) ps.length cp), (22, .int .i64 ps.length), (23, .int .i64 k), (32, .slice (some ⟨H.length + 3, 0, none⟩) 2 2), (33, .int .i64 2), (34, .int .i64 m)])
    (fun m => H ++ [some ⟨[.int .i64 n, .slice (some ⟨tp, 0, none⟩) ps.length cp], true, 34, 1⟩, some ⟨(inP op s0 k (p1, (a : Int), (b : Int), p4) m).1.map .bool, true, 85, 1⟩, some ⟨[.int .i64 p1, .int .i64 a, .int .i64 b, .int .i64 p4], true, 68, 1⟩, some ⟨[.int .i64 a, .int .i64 b], true, 3, 1⟩]) (fun m => 2 - m) 0 (by omega) ?_ ?_
  · refine weakS_mk [some 0, some 1, some 2, some 3] rfl ?_ (by simp -dsimp -implicitDefEqProofs (disch := omega) [go_sem, -List.getD_eq_getElem?_getD, ite_yes, htp, inP]; exact hc0 _ (by omega) _)
    simp -dsimp -implicitDefEqProofs (disch := omega) [go_sem, -List.getD_eq_getElem?_getD, ite_yes, htp]
    exact ⟨wl_net htp, .inl ⟨rfl, bl_flat _⟩, .inl ⟨rfl, rfl⟩, .inl ⟨rfl, rfl⟩⟩
  intro m hm
  by_cases hm2 : m < 2
  rotate_left
  · obtain rfl : m = 2 := by omega
    simp -dsimp -implicitDefEqProofs (disch := omega) [go_sem, -List.getD_eq_getElem?_getD, ite_yes]
    refine LoopEnd.of (k + 1) (by omega) (by omega) (weakS_mk [some 0, some 1] rfl ?_ (by simp -dsimp -implicitDefEqProofs (disch := omega) [go_sem, -List.getD_eq_getElem?_getD, ite_yes, htp, hin]; exact hc0 _ (by omega) _))
    simp -dsimp -implicitDefEqProofs (disch := omega) [go_sem, -List.getD_eq_getElem?_getD, ite_yes, htp]
    exact ⟨wl_net htp, .inl ⟨by rw [hin], bl_flat _⟩⟩
  have hm01 : m = 0 ∨ m = 1 := by omega
  rcases hm01 with rfl | rfl
  · have hl1 := hlen 0
    have hx : a < 9 := by omega
    obtain ⟨⟨V, f⟩, hV⟩ : ∃ v, inP op s0 k (p1, (a : Int), (b : Int), p4) 0 = v := ⟨_, rfl⟩
    have ii := i1 s0
    rw [hV] at hl1 ii
    simp only at hl1
    simp only [hV]
    have hxa : a < V.length := by omega
    have hxb : 9 + k < V.length := by omega
    have c1 := bl_cell V hxa
    have c2 := bl_cell V hxb
    have hA := fun L => hp _ (hpre L) (p1, (a : Int), (b : Int), p4) (a : Int)
    simp -dsimp -implicitDefEqProofs (disch := omega) [go_sem, -List.getD_eq_getElem?_getD, ite_yes, htp, hl1, hx, hxa]
    refine ADraw.quiet (by kernel_rfl) (by kernel_rfl) (by kernel_rfl) ?_
    have hk9 : (9 + (k : Int)).toNat = 9 + k := by omega
    have hk10 : k + 9 < 19 := by omega
    simp -dsimp -implicitDefEqProofs (disch := omega) [go_sem, -List.getD_eq_getElem?_getD, ite_yes, htp, hl1, hx, hxa, c1]
    refine ACallQ.of (element_A k (by omega) _) rfl ?_
    simp -dsimp -implicitDefEqProofs (disch := omega) [go_sem, -List.getD_eq_getElem?_getD, ite_yes, htp, hl1, hx, hxa, c1, c2, hk9]
    refine AIf.of (fun h1 => ?_) (fun h1 => ?_)
    rotate_left
    · have e : inP op s0 k (p1, (a : Int), (b : Int), p4) 1 = (V, f) := by
        rw [ii, stepAt]
        simp only [Bool.not_eq_false'] at h1
        simp only [bne, h1]; rfl
      simp -dsimp -implicitDefEqProofs (disch := omega) [go_sem, -List.getD_eq_getElem?_getD, ite_yes]
      refine LoopEnd.of 1 (by omega) (by omega) (weakS_mk [some 0, some 1, some 2, some 3] rfl ?_ (by simp -dsimp -implicitDefEqProofs (disch := omega) [go_sem, -List.getD_eq_getElem?_getD, ite_yes, htp, e]; exact hc0 _ (by omega) _))
      simp -dsimp -implicitDefEqProofs (disch := omega) [go_sem, -List.getD_eq_getElem?_getD, ite_yes, htp, e]
      exact ⟨wl_net htp, .inl ⟨rfl, bl_flat _⟩, .inl ⟨rfl, rfl⟩, .inl ⟨rfl, rfl⟩⟩
    simp -dsimp -implicitDefEqProofs (disch := omega) [go_sem, -List.getD_eq_getElem?_getD, ite_yes]
    refine ACallQ.of (hA _) rfl ?_
    cases ho : op (p1, (a : Int), (b : Int), p4) (a : Int)
    · have e : inP op s0 k (p1, (a : Int), (b : Int), p4) 1 = (V, f) := by
        rw [ii, stepAt, ho, Bool.and_false]; rfl
      simp -dsimp -implicitDefEqProofs (disch := omega) [go_sem, -List.getD_eq_getElem?_getD, ite_yes]
      refine LoopEnd.of 1 (by omega) (by omega) (weakS_mk [some 0, some 1, some 2, some 3] rfl ?_ (by simp -dsimp -implicitDefEqProofs (disch := omega) [go_sem, -List.getD_eq_getElem?_getD, ite_yes, htp, e]; exact hc0 _ (by omega) _))
      simp -dsimp -implicitDefEqProofs (disch := omega) [go_sem, -List.getD_eq_getElem?_getD, ite_yes, htp, e]
      exact ⟨wl_net htp, .inl ⟨rfl, bl_flat _⟩, .inl ⟨rfl, rfl⟩, .inl ⟨rfl, rfl⟩⟩
    · have e : inP op s0 k (p1, (a : Int), (b : Int), p4) 1 = ((V.set a true).set (9 + k) true, true) := by
        rw [ii, stepAt, ho, Bool.and_true]
        simp only [bne, h1]; rfl
      have b1 := bl_set V true a
      have b2 := bl_set (V.set a true) true (9 + k)
      have b3 : (V.set a true).length = 19 := by rw [List.length_set, hl1]
      simp -dsimp -implicitDefEqProofs (disch := omega) [go_sem, -List.getD_eq_getElem?_getD, ite_yes, htp]
      refine ADraw.any H (by kernel_rfl) (by first | exact SubH.refl | exact SubH.app | exact SubH.both (by simp [subL])) ?_
      refine AAny.takes (fuel := 6) (by kernel_rfl) (by kernel_rfl) [0, 1, 2, 3, 5, 8] (by kernel_rfl) (by kernel_rfl) ?_
      simp -dsimp -implicitDefEqProofs (disch := omega) [go_sem, -List.getD_eq_getElem?_getD, ite_yes, htp, hl1, hx, hxa, hk9]
      refine AAny.one 5 4 (by kernel_rfl) (by kernel_rfl) (by kernel_rfl) ?_
      simp -dsimp -implicitDefEqProofs (disch := omega) [go_sem, -List.getD_eq_getElem?_getD, ite_yes, htp, hl1, hx, hxa, hk9]
      refine ACall.of (element_A k (by omega) _) ?_
      simp -dsimp -implicitDefEqProofs (disch := omega) [go_sem, -List.getD_eq_getElem?_getD, ite_yes, htp, hl1, hx, hxa, hk9]
      first | refine AAt.of (by first | exact SubH.refl | exact SubH.app | exact SubH.both (by simp [subL])) ?_ | (refine ⟨?_, AAt.of (by first | exact SubH.refl | exact SubH.app | exact SubH.both (by simp [subL])) ?_⟩; · omega)
      refine AAny.takes (fuel := 4) (by kernel_rfl) (by kernel_rfl) [6] (by kernel_rfl) (by kernel_rfl) ?_
      simp -dsimp -implicitDefEqProofs (disch := omega) [go_sem, -List.getD_eq_getElem?_getD, ite_yes, htp, hl1, hx, hxa, hk9]
      refine AAny.one 3 7 (by kernel_rfl) (by kernel_rfl) (by kernel_rfl) ?_
      simp -dsimp -implicitDefEqProofs (disch := omega) [go_sem, -List.getD_eq_getElem?_getD, ite_yes, htp, hl1, hx, hxa, hk9]
      first | refine AAt.of (by first | exact SubH.refl | exact SubH.app | exact SubH.both (by simp [subL])) ?_ | (refine ⟨?_, AAt.of (by first | exact SubH.refl | exact SubH.app | exact SubH.both (by simp [subL])) ?_⟩; · omega)
      refine AAny.takes (fuel := 2) (by kernel_rfl) (by kernel_rfl) [9] (by kernel_rfl) (by kernel_rfl) ?_
      simp -dsimp -implicitDefEqProofs (disch := omega) [go_sem, -List.getD_eq_getElem?_getD, ite_yes, htp, hl1, hx, hxa, hk9]
      refine AAny.one 1 10 (by kernel_rfl) (by kernel_rfl) (by kernel_rfl) ?_
      simp -dsimp -implicitDefEqProofs (disch := omega) [go_sem, -List.getD_eq_getElem?_getD, ite_yes, htp, hl1, hx, hxa, hk9]
      first | refine AAt.of (by first | exact SubH.refl | exact SubH.app | exact SubH.both (by simp [subL])) ?_ | (refine ⟨?_, AAt.of (by first | exact SubH.refl | exact SubH.app | exact SubH.both (by simp [subL])) ?_⟩; · omega)
      refine AAny.takes (fuel := 0) (by kernel_rfl) (by kernel_rfl) [11] (by kernel_rfl) (by kernel_rfl) ?_
      simp -dsimp -implicitDefEqProofs (disch := omega) [go_sem, -List.getD_eq_getElem?_getD, ite_yes, htp, hl1, hx, hxa, hk9]
      refine AAny.done (by kernel_rfl) ?_
      simp -dsimp -implicitDefEqProofs (disch := omega) [go_sem, -List.getD_eq_getElem?_getD, ite_yes, htp, hl1, hx, hxa, hk9]
      refine LoopEnd.of 1 (by omega) (by omega) (weakS_mk [some 0, some 1, some 2, some 3] rfl ?_ (by simp -dsimp -implicitDefEqProofs (disch := omega) [go_sem, -List.getD_eq_getElem?_getD, ite_yes, htp, e]; exact hc0 _ (by omega) _))
      simp -dsimp -implicitDefEqProofs (disch := omega) [go_sem, -List.getD_eq_getElem?_getD, ite_yes, htp, e]
      exact ⟨wl_net htp, .inl ⟨by simp only [List.map_set], by simp only [← List.map_set]; exact bl_flat _⟩, .inl ⟨rfl, rfl⟩, .inl ⟨rfl, rfl⟩⟩
  · have hl1 := hlen 1
    have hx : b < 9 := by omega
    obtain ⟨⟨V, f⟩, hV⟩ : ∃ v, inP op s0 k (p1, (a : Int), (b : Int), p4) 1 = v := ⟨_, rfl⟩
    have ii := i2 s0
    rw [hV] at hl1 ii
    simp only at hl1
    simp only [hV]
    have hxa : b < V.length := by omega
    have hxb : 9 + k < V.length := by omega
    have c1 := bl_cell V hxa
    have c2 := bl_cell V hxb
    have hA := fun L => hp _ (hpre L) (p1, (a : Int), (b : Int), p4) (b : Int)
    simp -dsimp -implicitDefEqProofs (disch := omega) [go_sem, -List.getD_eq_getElem?_getD, ite_yes, htp, hl1, hx, hxa]
    refine ADraw.quiet (by kernel_rfl) (by kernel_rfl) (by kernel_rfl) ?_
    have hk9 : (9 + (k : Int)).toNat = 9 + k := by omega
    have hk10 : k + 9 < 19 := by omega
    simp -dsimp -implicitDefEqProofs (disch := omega) [go_sem, -List.getD_eq_getElem?_getD, ite_yes, htp, hl1, hx, hxa, c1]
    refine ACallQ.of (element_A k (by omega) _) rfl ?_
    simp -dsimp -implicitDefEqProofs (disch := omega) [go_sem, -List.getD_eq_getElem?_getD, ite_yes, htp, hl1, hx, hxa, c1, c2, hk9]
    refine AIf.of (fun h1 => ?_) (fun h1 => ?_)
    rotate_left
    · have e : inP op s0 k (p1, (a : Int), (b : Int), p4) 2 = (V, f) := by
        rw [ii, stepAt]
        simp only [Bool.not_eq_false'] at h1
        simp only [bne, h1]; rfl
      simp -dsimp -implicitDefEqProofs (disch := omega) [go_sem, -List.getD_eq_getElem?_getD, ite_yes]
      refine LoopEnd.of 2 (by omega) (by omega) (weakS_mk [some 0, some 1, some 2, some 3] rfl ?_ (by simp -dsimp -implicitDefEqProofs (disch := omega) [go_sem, -List.getD_eq_getElem?_getD, ite_yes, htp, e]; exact hc0 _ (by omega) _))
      simp -dsimp -implicitDefEqProofs (disch := omega) [go_sem, -List.getD_eq_getElem?_getD, ite_yes, htp, e]
      exact ⟨wl_net htp, .inl ⟨rfl, bl_flat _⟩, .inl ⟨rfl, rfl⟩, .inl ⟨rfl, rfl⟩⟩
    simp -dsimp -implicitDefEqProofs (disch := omega) [go_sem, -List.getD_eq_getElem?_getD, ite_yes]
    refine ACallQ.of (hA _) rfl ?_
    cases ho : op (p1, (a : Int), (b : Int), p4) (b : Int)
    · have e : inP op s0 k (p1, (a : Int), (b : Int), p4) 2 = (V, f) := by
        rw [ii, stepAt, ho, Bool.and_false]; rfl
      simp -dsimp -implicitDefEqProofs (disch := omega) [go_sem, -List.getD_eq_getElem?_getD, ite_yes]
      refine LoopEnd.of 2 (by omega) (by omega) (weakS_mk [some 0, some 1, some 2, some 3] rfl ?_ (by simp -dsimp -implicitDefEqProofs (disch := omega) [go_sem, -List.getD_eq_getElem?_getD, ite_yes, htp, e]; exact hc0 _ (by omega) _))
      simp -dsimp -implicitDefEqProofs (disch := omega) [go_sem, -List.getD_eq_getElem?_getD, ite_yes, htp, e]
      exact ⟨wl_net htp, .inl ⟨rfl, bl_flat _⟩, .inl ⟨rfl, rfl⟩, .inl ⟨rfl, rfl⟩⟩
    · have e : inP op s0 k (p1, (a : Int), (b : Int), p4) 2 = ((V.set b true).set (9 + k) true, true) := by
        rw [ii, stepAt, ho, Bool.and_true]
        simp only [bne, h1]; rfl
      have b1 := bl_set V true b
      have b2 := bl_set (V.set b true) true (9 + k)
      have b3 : (V.set b true).length = 19 := by rw [List.length_set, hl1]
      simp -dsimp -implicitDefEqProofs (disch := omega) [go_sem, -List.getD_eq_getElem?_getD, ite_yes, htp]
      refine ADraw.any H (by kernel_rfl) (by first | exact SubH.refl | exact SubH.app | exact SubH.both (by simp [subL])) ?_
      refine AAny.takes (fuel := 6) (by kernel_rfl) (by kernel_rfl) [0, 1, 2, 3, 5, 8] (by kernel_rfl) (by kernel_rfl) ?_
      simp -dsimp -implicitDefEqProofs (disch := omega) [go_sem, -List.getD_eq_getElem?_getD, ite_yes, htp, hl1, hx, hxa, hk9]
      refine AAny.one 5 4 (by kernel_rfl) (by kernel_rfl) (by kernel_rfl) ?_
      simp -dsimp -implicitDefEqProofs (disch := omega) [go_sem, -List.getD_eq_getElem?_getD, ite_yes, htp, hl1, hx, hxa, hk9]
      refine ACall.of (element_A k (by omega) _) ?_
      simp -dsimp -implicitDefEqProofs (disch := omega) [go_sem, -List.getD_eq_getElem?_getD, ite_yes, htp, hl1, hx, hxa, hk9]
      first | refine AAt.of (by first | exact SubH.refl | exact SubH.app | exact SubH.both (by simp [subL])) ?_ | (refine ⟨?_, AAt.of (by first | exact SubH.refl | exact SubH.app | exact SubH.both (by simp [subL])) ?_⟩; · omega)
      refine AAny.takes (fuel := 4) (by kernel_rfl) (by kernel_rfl) [6] (by kernel_rfl) (by kernel_rfl) ?_
      simp -dsimp -implicitDefEqProofs (disch := omega) [go_sem, -List.getD_eq_getElem?_getD, ite_yes, htp, hl1, hx, hxa, hk9]
      refine AAny.one 3 7 (by kernel_rfl) (by kernel_rfl) (by kernel_rfl) ?_
      simp -dsimp -implicitDefEqProofs (disch := omega) [go_sem, -List.getD_eq_getElem?_getD, ite_yes, htp, hl1, hx, hxa, hk9]
      first | refine AAt.of (by first | exact SubH.refl | exact SubH.app | exact SubH.both (by simp [subL])) ?_ | (refine ⟨?_, AAt.of (by first | exact SubH.refl | exact SubH.app | exact SubH.both (by simp [subL])) ?_⟩; · omega)
      refine AAny.takes (fuel := 2) (by kernel_rfl) (by kernel_rfl) [9] (by kernel_rfl) (by kernel_rfl) ?_
      simp -dsimp -implicitDefEqProofs (disch := omega) [go_sem, -List.getD_eq_getElem?_getD, ite_yes, htp, hl1, hx, hxa, hk9]
      refine AAny.one 1 10 (by kernel_rfl) (by kernel_rfl) (by kernel_rfl) ?_
      simp -dsimp -implicitDefEqProofs (disch := omega) [go_sem, -List.getD_eq_getElem?_getD, ite_yes, htp, hl1, hx, hxa, hk9]
      first | refine AAt.of (by first | exact SubH.refl | exact SubH.app | exact SubH.both (by simp [subL])) ?_ | (refine ⟨?_, AAt.of (by first | exact SubH.refl | exact SubH.app | exact SubH.both (by simp [subL])) ?_⟩; · omega)
      refine AAny.takes (fuel := 0) (by kernel_rfl) (by kernel_rfl) [11] (by kernel_rfl) (by kernel_rfl) ?_
      simp -dsimp -implicitDefEqProofs (disch := omega) [go_sem, -List.getD_eq_getElem?_getD, ite_yes, htp, hl1, hx, hxa, hk9]
      refine AAny.done (by kernel_rfl) ?_
      simp -dsimp -implicitDefEqProofs (disch := omega) [go_sem, -List.getD_eq_getElem?_getD, ite_yes, htp, hl1, hx, hxa, hk9]
      refine LoopEnd.of 2 (by omega) (by omega) (weakS_mk [some 0, some 1, some 2, some 3] rfl ?_ (by simp -dsimp -implicitDefEqProofs (disch := omega) [go_sem, -List.getD_eq_getElem?_getD, ite_yes, htp, e]; exact hc0 _ (by omega) _))
      simp -dsimp -implicitDefEqProofs (disch := omega) [go_sem, -List.getD_eq_getElem?_getD, ite_yes, htp, e]
      exact ⟨wl_net htp, .inl ⟨by simp only [List.map_set], by simp only [← List.map_set]; exact bl_flat _⟩, .inl ⟨rfl, rfl⟩, .inl ⟨rfl, rfl⟩⟩
end Go.Proofs.Ytamkdgjagjpmlaa
