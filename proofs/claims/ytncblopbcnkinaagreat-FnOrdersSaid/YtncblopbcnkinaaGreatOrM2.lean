/- DrawOrd, DrawShut, in one text. -/
import Derived.Test.YtncblopbcnkinaaGreatShort
import Derived.Test.YtncblopbcnkinaaGreatDrawVl
import Derived.Test.YtncblopbcnkinaaGreatOrM1
import Derived.Test.YtncblopbcnkinaaGreatAm16
import Derived.Test.YtncblopbcnkinaaGreatDrawVl2
/- Orders and customers that are drawn. -/
namespace Go.Proofs.YtncblopbcnkinaaGreat
open Go.Am
set_option linter.unusedVariables false
set_option linter.unusedSimpArgs false
set_option maxRecDepth 100000
set_option maxHeartbeats 4000000
def PNms (H : Heap) (t tc n cc : Nat) (at_ : Int) (v : Value) (H' : Heap) : Prop :=
  ∃ (l : List Int) (a s : Int), v = .slice (some ⟨H.length, 0, none⟩) l.length l.length ∧ l.length ≤ 30 ∧ at_ ≤ a ∧ a ≤ at_ + 200 ∧ H' = H.set t (curB tc n cc a s) ++ [some ⟨l.flatMap nmE, true, 3, 1⟩]
structure CuI where
  k : Nat
  l : List Int
  a : Int
  s : Int
theorem nmz_set (s : List Int) (x : Int) {q : Nat} (hq : q < s.length) : (s.flatMap nmE).set q (.int .i64 x) = (s.set q x).flatMap nmE := by
  have := set_cell (f := nmE) (s := 1) (fun _ => rfl) x 0 hq (j := 0) (by omega) (v := .int .i64 x) rfl
  rwa [Nat.mul_one, Nat.add_zero] at this
theorem nmE_cells (M : List Int) : M.flatMap nmE = M.map (Value.int .i64) := by
  induction M with
  | nil => rfl
  | cons x M ih => rw [List.flatMap_cons, ih]; rfl
theorem nm_take (L : List Int) (k : Nat) : List.take k (L.flatMap nmE) = (L.take k).flatMap nmE := by rw [nmE_cells, nmE_cells, List.map_take]
theorem nm_drop (L : List Int) (k : Nat) : List.drop k (L.flatMap nmE) = (L.drop k).flatMap nmE := by rw [nmE_cells, nmE_cells, List.map_drop]
theorem endNms {H L : Heap} {t tc n cc : Nat} {at_ seed : Int} (h : Cur H t tc n cc at_ seed) (l : List Int) (a s : Int) (j u c : Nat) (hu : u = H.length + j) (hb : Heap.get L j = some ⟨l.flatMap nmE, true, 3, 1⟩) (hl : l.length ≤ 30) (h1 : at_ ≤ a) (h2 : a ≤ at_ + 200) :
    EndR H (PNms H t tc n cc at_) (.slice (some ⟨u, 0, none⟩) l.length c) (H.set t (curB tc n cc a s) ++ L) := by
  have ht := h.lt
  subst hu
  refine EndR.of (.slice (some ⟨H.length, 0, none⟩) l.length l.length) _ ⟨l, a, s, rfl, hl, h1, h2, rfl⟩ (fin_sets [some j] rfl ht (h.wms _ _ _ _) ?_ (by simp -dsimp -implicitDefEqProofs (disch := omega) [go_sem, -List.getD_eq_getElem?_getD, ite_yes, sg]))
  simp only [wkL, hb]
  exact ⟨⟨trivial, trivial, id, .inl ⟨rfl, nmE_flat _⟩⟩, trivial⟩
theorem customers_R {H : Heap} {t tc n cc : Nat} {at_ seed : Int} (h : Cur H t tc n cc at_ seed) (hA : at_ ≤ 100000000000000) (N : Int) (hN : N ≤ 20) (tp len cp : Nat) (htp : tp < H.length) :
    AFunR Tryz.prog 20 [.pointer (some ⟨t, 0, none⟩), netV N tp len cp] H (PNms H t tc n cc at_) := by
  refine AFunR.of_body Tryz.func20 (by kernel_rfl) rfl (by kernel_rfl) (by simp [Tryz.ntmps20]) ?_
  have ht := h.lt
  have p0 := h.pos
  have si := fun (x : Option Blk) (L : Heap) (y : Option Blk) => set_into (H := H) (L := L) (x := x) ht (y := y)
  have s0 := fun (L : Heap) (y : Option Blk) => set_into0 (H := H) (L := L) ht (y := y)
  have hS0 := Heap.set_self h.blk
  simp -dsimp -implicitDefEqProofs (disch := omega) [go_sem, -List.getD_eq_getElem?_getD, ite_yes, htp]
  refine ALoop.intro (ι := CuI) (fun i => i.l.length = i.k ∧ (i.k : Int) ≤ max N 0 ∧ at_ ≤ i.a ∧ i.a ≤ at_ + 2 * i.k) (fun i => [(0, .pointer (some ⟨t, 0, none⟩)), (3, .pointer (some ⟨H.length, 0, none⟩)), (5, .slice (some ⟨H.length + 1, 0, none⟩) i.l.length i.l.length), (6, .int .i64 ((i.k : Int) + 1))])
    (fun i => H.set t (curB tc n cc i.a i.s) ++ [some ⟨[.int .i64 N, .slice (some ⟨tp, 0, none⟩) len cp], true, 26, 1⟩, some ⟨i.l.flatMap nmE, true, 3, 1⟩]) (fun i => N.toNat - i.k) ⟨0, [], at_, seed⟩ ⟨rfl, by simp only; omega, by simp only; omega, by simp only; omega⟩ ?_ ?_
  · refine WeakS.castH (by rw [hS0]) (weakS_sets [some 0, some 1] rfl ht (h.wms _ _ _ _) ?_ (by simp -dsimp -implicitDefEqProofs (disch := omega) [go_sem, -List.getD_eq_getElem?_getD, ite_yes, ht, htp]))
    simp -dsimp -implicitDefEqProofs (disch := omega) [go_sem, -List.getD_eq_getElem?_getD, ite_yes]
    exact ⟨wl_net htp, .inl ⟨rfl, rfl⟩⟩
  rintro ⟨k, l, a, s⟩ ⟨i1, i2, i3, i4⟩
  simp only at i1 i2 i3 i4
  subst i1
  have lf := nmE_length l
  by_cases hk : (l.length : Int) + 1 ≤ N
  · simp -dsimp -implicitDefEqProofs (disch := omega) [go_sem, -List.getD_eq_getElem?_getD, ite_yes, hk]
    refine ACall.via (among_R ((h.step (by omega)).app _) (by omega) [0, 1, 5, 10, 100, 1000] (by simp) (by simp) _ _ (by omega) (Sl.nthS 2 rfl rfl)) ?_
    rintro _ _ ⟨y, rfl, ym, a6, s6, q6, q6', rfl⟩
    simp -dsimp -implicitDefEqProofs (disch := omega) [go_sem, -List.getD_eq_getElem?_getD, ite_yes, si, lf]
    refine ⟨by omega, LoopEnd.of ⟨l.length + 1, l ++ [y], a6, s6⟩ ⟨by simp, by simp only; omega, by simp only; omega, by simp only; omega⟩ (by simp only; omega) (weakS_sets [some 0, some 4] rfl ht (h.wms _ _ _ _) ?_ (by simp -dsimp -implicitDefEqProofs (disch := omega) [go_sem, -List.getD_eq_getElem?_getD, ite_yes, ht, htp]))⟩
    simp -dsimp -implicitDefEqProofs (disch := omega) [go_sem, -List.getD_eq_getElem?_getD, ite_yes, htp]
    exact ⟨wl_net htp, .inl ⟨by simp [nmE], by simp [nmE, flat]⟩⟩
  have l9 : l.length ≤ 20 := by omega
  by_cases h0 : 0 < l.length
  rotate_left
  · have h0i : ¬ (0 : Int) < (l.length : Int) := by omega
    simp -dsimp -implicitDefEqProofs (disch := omega) [go_sem, -List.getD_eq_getElem?_getD, ite_yes, hk, h0, h0i]
    refine ACall.via (one_R ((h.step (by omega)).app _) (by omega) 24 (by omega)) ?_
    rintro _ _ ⟨b8, rfl, a8, s8, q8, q8', rfl⟩
    cases b8
    · simp -dsimp -implicitDefEqProofs (disch := omega) [go_sem, -List.getD_eq_getElem?_getD, ite_yes, si, lf]
      exact endNms h l a8 s8 1 _ _ rfl rfl (by omega) (by omega) (by omega)
    · simp -dsimp -implicitDefEqProofs (disch := omega) [go_sem, -List.getD_eq_getElem?_getD, ite_yes, si, lf]
      refine ⟨by omega, ?_⟩
      have e3 : (l ++ [(3 : Int)]).length = l.length + 1 := by simp
      rw [← e3]
      exact endNms h (l ++ [3]) a8 s8 3 _ _ rfl (by simp [nmE, Heap.get_cons]) (by omega) (by omega) (by omega)
  have h0i : (0 : Int) < (l.length : Int) := by omega
  simp -dsimp -implicitDefEqProofs (disch := omega) [go_sem, -List.getD_eq_getElem?_getD, ite_yes, hk, h0, h0i]
  refine ACall.via (one_R ((h.step (by omega)).app _) (by omega) 20 (by omega)) ?_
  rintro _ _ ⟨b7, rfl, a7, s7, q7, q7', rfl⟩
  cases b7
  · simp -dsimp -implicitDefEqProofs (disch := omega) [go_sem, -List.getD_eq_getElem?_getD, ite_yes, si]
    refine ACall.via (one_R ((h.step (by omega)).app _) (by omega) 24 (by omega)) ?_
    rintro _ _ ⟨b8, rfl, a8, s8, q8, q8', rfl⟩
    cases b8
    · simp -dsimp -implicitDefEqProofs (disch := omega) [go_sem, -List.getD_eq_getElem?_getD, ite_yes, si, lf]
      exact endNms h l a8 s8 1 _ _ rfl rfl (by omega) (by omega) (by omega)
    · simp -dsimp -implicitDefEqProofs (disch := omega) [go_sem, -List.getD_eq_getElem?_getD, ite_yes, si, lf]
      refine ⟨by omega, ?_⟩
      have e3 : (l ++ [(3 : Int)]).length = l.length + 1 := by simp
      rw [← e3]
      exact endNms h (l ++ [3]) a8 s8 3 _ _ rfl (by simp [nmE, Heap.get_cons]) (by omega) (by omega) (by omega)
  · simp -dsimp -implicitDefEqProofs (disch := omega) [go_sem, -List.getD_eq_getElem?_getD, ite_yes, si]
    refine ACall.via (among_R ((h.step (by omega)).app _) (by omega) [-1, 1001] (by simp) (by simp) _ _ (by omega) (Sl.nthS 2 rfl rfl)) ?_
    rintro _ _ ⟨y, rfl, ym, a6, s6, q6, q6', rfl⟩
    have nz := nmz_set l y h0
    have ll : (l.set 0 y).length = l.length := by simp
    have lf2 := nmE_length (l.set 0 y)
    generalize hl' : l.set 0 y = l' at nz ll lf2
    rw [← ll] at h0 h0i lf l9 ⊢
    simp -dsimp -implicitDefEqProofs (disch := omega) [go_sem, -List.getD_eq_getElem?_getD, ite_yes, si, nz, lf, h0, h0i]
    refine ACall.via (one_R ((h.step (by omega)).app _) (by omega) 24 (by omega)) ?_
    rintro _ _ ⟨b8, rfl, a8, s8, q8, q8', rfl⟩
    cases b8
    · simp -dsimp -implicitDefEqProofs (disch := omega) [go_sem, -List.getD_eq_getElem?_getD, ite_yes, si, lf2, ll]
      rw [← ll]
      exact endNms h l' a8 s8 1 _ _ rfl rfl (by omega) (by omega) (by omega)
    · simp -dsimp -implicitDefEqProofs (disch := omega) [go_sem, -List.getD_eq_getElem?_getD, ite_yes, si, lf2, ll]
      refine ⟨by omega, ?_⟩
      have e3 : (l' ++ [(3 : Int)]).length = l.length + 1 := by simp [ll]
      rw [← e3]
      exact endNms h (l' ++ [3]) a8 s8 4 _ _ rfl (by simp [nmE, Heap.get_cons]) (by omega) (by omega) (by omega)
theorem orderOf_R {H : Heap} {t tc n cc : Nat} {at_ seed : Int} (h : Cur H t tc n cc at_ seed) (hA : at_ ≤ 100000000000000) (l : List Vl) (hl : l.length ≤ 20) (c tv : Nat) (hV : Sl vlE H tv l) :
    AFunR Tryz.prog 41 [.pointer (some ⟨t, 0, none⟩), .slice (some ⟨tv, 0, none⟩) l.length c] H (PNms H t tc n cc at_) := by
  refine AFunR.of_body Tryz.func41 (by kernel_rfl) rfl (by kernel_rfl) (by simp [Tryz.ntmps41]) ?_
  have ht := h.lt
  have p0 := h.pos
  have si := fun (x : Option Blk) (L : Heap) (y : Option Blk) => set_into (H := H) (L := L) (x := x) ht (y := y)
  have s0 := fun (L : Heap) (y : Option Blk) => set_into0 (H := H) (L := L) ht (y := y)
  have hS0 := Heap.set_self h.blk
  have htv := hV.lt
  have sl := shutL_length l
  simp -dsimp -implicitDefEqProofs (disch := omega) [go_sem, -List.getD_eq_getElem?_getD, ite_yes, htv]
  refine ACall.of (l18Shut_A l (by omega) c _ tv hV.app) ?_
  generalize shutL l = S at *
  have sf := nmE_length S
  simp -dsimp -implicitDefEqProofs (disch := omega) [go_sem, -List.getD_eq_getElem?_getD, ite_yes]
  refine ALoop.intro (ι := CuI) (fun i => i.l.length = i.k ∧ i.k ≤ S.length ∧ at_ ≤ i.a ∧ i.a ≤ at_ + 2 * i.k) (fun i => [(0, .pointer (some ⟨t, 0, none⟩)), (5, .slice (some ⟨H.length, 0, none⟩) i.l.length 0), (6, .slice (some ⟨H.length + 1, 0, none⟩) S.length 0), (7, .int .i64 i.k)])
    (fun i => H.set t (curB tc n cc i.a i.s) ++ [some ⟨i.l.flatMap nmE, true, 3, 1⟩, some ⟨S.flatMap nmE, true, 3, 1⟩]) (fun i => S.length - i.k) ⟨0, [], at_, seed⟩ ⟨rfl, by simp only; omega, by simp only; omega, by simp only; omega⟩ ?_ ?_
  · refine WeakS.castH (by rw [hS0]) (weakS_sets [some 0, some 1] rfl ht (h.wms _ _ _ _) ?_ (by simp -dsimp -implicitDefEqProofs (disch := omega) [go_sem, -List.getD_eq_getElem?_getD, ite_yes, ht]))
    simp -dsimp -implicitDefEqProofs (disch := omega) [go_sem, -List.getD_eq_getElem?_getD, ite_yes]
    exact ⟨.inl ⟨rfl, rfl⟩, .inl ⟨rfl, nmE_flat _⟩⟩
  rintro ⟨k, o, a, s⟩ ⟨i1, i2, i3, i4⟩
  simp only at i1 i2 i3 i4
  subst i1
  have lf := nmE_length o
  by_cases hk : o.length < S.length
  · have hki : (o.length : Int) < (S.length : Int) := by omega
    have c1 := nm_cell1 S hk
    generalize S.getD o.length 0 = x at c1
    simp -dsimp -implicitDefEqProofs (disch := omega) [go_sem, -List.getD_eq_getElem?_getD, ite_yes, hk, hki]
    refine ACall.via (pick_R ((h.step (by omega)).app _) (by omega) ((o.length : Int) + 1) (by omega)) ?_
    rintro _ _ ⟨y, rfl, y0, y1, a6, s6, q6, q6', rfl⟩
    obtain ⟨q, rfl⟩ : ∃ q : Nat, y = (q : Int) := ⟨y.toNat, by omega⟩
    have hq : q ≤ o.length := by omega
    have hqi : (q : Int) ≤ (o.length : Int) := by omega
    have n1 := nm_take o q
    have n2 := nm_drop o q
    have n3 : (List.flatMap nmE (List.take q o)).length = q := by rw [nmE_length, List.length_take]; omega
    have n4 : (List.flatMap nmE (List.drop q o)).length = o.length - q := by rw [nmE_length, List.length_drop]; omega
    have n5 : List.take (o.length - q) (List.flatMap nmE (List.drop q o)) = List.flatMap nmE (List.drop q o) := List.take_of_length_le (by omega)
    have e4 : q + 1 + (o.length - q) = o.length + 1 := by omega
    obtain ⟨o', ho'⟩ : ∃ o', o.take q ++ x :: o.drop q = o' := ⟨_, rfl⟩
    have en : o'.length = o.length + 1 := by rw [← ho', List.length_append, List.length_cons, List.length_take, List.length_drop]; omega
    have ef : o'.flatMap nmE = (o.take q).flatMap nmE ++ Value.int .i64 x :: (o.drop q).flatMap nmE := by rw [← ho']; simp [nmE]
    simp -dsimp -implicitDefEqProofs (disch := omega) [go_sem, -List.getD_eq_getElem?_getD, ite_yes, si]
    refine ADraw.mid [(0, .pointer (some ⟨t, 0, none⟩)), (5, .slice (some ⟨H.length, 0, none⟩) (o.length + 1) 0), (6, .slice (some ⟨H.length + 1, 0, none⟩) S.length 0), (7, .int .i64 o.length)] (H.set t (curB tc n cc a6 s6) ++ [some ⟨o'.flatMap nmE, true, 3, 1⟩, some ⟨S.flatMap nmE, true, 3, 1⟩]) ?_ ?_
    · skip
      refine ADraw.any (H.set t (curB tc n cc a6 s6) ++ [some ⟨o.flatMap nmE, true, 3, 1⟩, some ⟨S.flatMap nmE, true, 3, 1⟩]) (by kernel_rfl) (by first | exact SubH.refl | exact SubH.app | exact SubH.both (by simp [subL])) ?_
      refine AAny.takes (fuel := 6) (by kernel_rfl) (by kernel_rfl) [1, 2, 3, 5, 6, 7, 8, 11, 12, 13] (by kernel_rfl) (by kernel_rfl) ?_
      simp -dsimp -implicitDefEqProofs (disch := omega) [go_sem, -List.getD_eq_getElem?_getD, ite_yes, ht, hk, hki, hq, hqi, lf, sf, c1, n1, n2, n3, n4, n5]
      refine AAny.two 5 0 9 (by kernel_rfl) (by kernel_rfl) (by kernel_rfl) ?_ ?_
      · simp -dsimp -implicitDefEqProofs (disch := omega) [go_sem, -List.getD_eq_getElem?_getD, ite_yes, ht, hk, hki, hq, hqi, lf, sf, c1, n1, n2, n3, n4, n5]
        refine AAt.of1 ?_
        refine AAny.two 4 4 9 (by kernel_rfl) (by kernel_rfl) (by kernel_rfl) ?_ ?_
        · simp -dsimp -implicitDefEqProofs (disch := omega) [go_sem, -List.getD_eq_getElem?_getD, ite_yes, ht, hk, hki, hq, hqi, lf, sf, c1, n1, n2, n3, n4, n5]
          first | refine AAt.of (by first | exact SubH.refl | exact SubH.app | exact SubH.both (by simp [subL])) ?_ | (refine ⟨?_, AAt.of (by first | exact SubH.refl | exact SubH.app | exact SubH.both (by simp [subL])) ?_⟩; · omega)
          refine AAny.one1 3 9 ?_
          simp -dsimp -implicitDefEqProofs (disch := omega) [go_sem, -List.getD_eq_getElem?_getD, ite_yes, ht, hk, hki, hq, hqi, lf, sf, c1, n1, n2, n3, n4, n5]
          refine AAt.of1 ?_
          refine AAny.one1 2 10 ?_
          simp -dsimp -implicitDefEqProofs (disch := omega) [go_sem, -List.getD_eq_getElem?_getD, ite_yes, ht, hk, hki, hq, hqi, lf, sf, c1, n1, n2, n3, n4, n5]
          first | refine AAt.of (by first | exact SubH.refl | exact SubH.app | exact SubH.both (by simp [subL])) ?_ | (refine ⟨?_, AAt.of (by first | exact SubH.refl | exact SubH.app | exact SubH.both (by simp [subL])) ?_⟩; · omega)
          refine AAny.one1 1 14 ?_
          simp -dsimp -implicitDefEqProofs (disch := omega) [go_sem, -List.getD_eq_getElem?_getD, ite_yes, ht, hk, hki, hq, hqi, lf, sf, c1, n1, n2, n3, n4, n5]
          first | refine AAt.of (by first | exact SubH.refl | exact SubH.app | exact SubH.both (by simp [subL])) ?_ | (refine ⟨?_, AAt.of (by first | exact SubH.refl | exact SubH.app | exact SubH.both (by simp [subL])) ?_⟩; · omega)
          refine AAny.takes (fuel := 0) (by kernel_rfl) (by kernel_rfl) [15] (by kernel_rfl) (by kernel_rfl) ?_
          simp -dsimp -implicitDefEqProofs (disch := omega) [go_sem, -List.getD_eq_getElem?_getD, ite_yes, ht, hk, hki, hq, hqi, lf, sf, c1, n1, n2, n3, n4, n5]
          refine AAny.done (by kernel_rfl) ?_
          simp -dsimp -implicitDefEqProofs (disch := omega) [go_sem, -List.getD_eq_getElem?_getD, ite_yes, ht, hk, hki, hq, hqi, lf, sf, c1, n1, n2, n3, n4, n5]
          refine ⟨weakS_sets [some 6, some 1] rfl ht (h.wms _ _ _ _) ?_ (by simp -dsimp -implicitDefEqProofs (disch := omega) [go_sem, -List.getD_eq_getElem?_getD, ite_yes, ht, e4])⟩
          simp -dsimp -implicitDefEqProofs (disch := omega) [go_sem, -List.getD_eq_getElem?_getD, ite_yes, ht, hk, hki, hq, hqi, lf, sf, c1, n1, n2, n3, n4, n5]
          exact ⟨.inl ⟨ef, ef ▸ nmE_flat o'⟩, .inl ⟨rfl, nmE_flat _⟩⟩
        · simp -dsimp -implicitDefEqProofs (disch := omega) [go_sem, -List.getD_eq_getElem?_getD, ite_yes, ht, hk, hki, hq, hqi, lf, sf, c1, n1, n2, n3, n4, n5]
          refine AAt.of1 ?_
          refine AAny.one1 3 4 ?_
          simp -dsimp -implicitDefEqProofs (disch := omega) [go_sem, -List.getD_eq_getElem?_getD, ite_yes, ht, hk, hki, hq, hqi, lf, sf, c1, n1, n2, n3, n4, n5]
          first | refine AAt.of (by first | exact SubH.refl | exact SubH.app | exact SubH.both (by simp [subL])) ?_ | (refine ⟨?_, AAt.of (by first | exact SubH.refl | exact SubH.app | exact SubH.both (by simp [subL])) ?_⟩; · omega)
          refine AAny.one1 2 10 ?_
          simp -dsimp -implicitDefEqProofs (disch := omega) [go_sem, -List.getD_eq_getElem?_getD, ite_yes, ht, hk, hki, hq, hqi, lf, sf, c1, n1, n2, n3, n4, n5]
          first | refine AAt.of (by first | exact SubH.refl | exact SubH.app | exact SubH.both (by simp [subL])) ?_ | (refine ⟨?_, AAt.of (by first | exact SubH.refl | exact SubH.app | exact SubH.both (by simp [subL])) ?_⟩; · omega)
          refine AAny.one1 1 14 ?_
          simp -dsimp -implicitDefEqProofs (disch := omega) [go_sem, -List.getD_eq_getElem?_getD, ite_yes, ht, hk, hki, hq, hqi, lf, sf, c1, n1, n2, n3, n4, n5]
          first | refine AAt.of (by first | exact SubH.refl | exact SubH.app | exact SubH.both (by simp [subL])) ?_ | (refine ⟨?_, AAt.of (by first | exact SubH.refl | exact SubH.app | exact SubH.both (by simp [subL])) ?_⟩; · omega)
          refine AAny.takes (fuel := 0) (by kernel_rfl) (by kernel_rfl) [15] (by kernel_rfl) (by kernel_rfl) ?_
          simp -dsimp -implicitDefEqProofs (disch := omega) [go_sem, -List.getD_eq_getElem?_getD, ite_yes, ht, hk, hki, hq, hqi, lf, sf, c1, n1, n2, n3, n4, n5]
          refine AAny.done (by kernel_rfl) ?_
          simp -dsimp -implicitDefEqProofs (disch := omega) [go_sem, -List.getD_eq_getElem?_getD, ite_yes, ht, hk, hki, hq, hqi, lf, sf, c1, n1, n2, n3, n4, n5]
          refine ⟨weakS_sets [some 6, some 1] rfl ht (h.wms _ _ _ _) ?_ (by simp -dsimp -implicitDefEqProofs (disch := omega) [go_sem, -List.getD_eq_getElem?_getD, ite_yes, ht, e4])⟩
          simp -dsimp -implicitDefEqProofs (disch := omega) [go_sem, -List.getD_eq_getElem?_getD, ite_yes, ht, hk, hki, hq, hqi, lf, sf, c1, n1, n2, n3, n4, n5]
          exact ⟨.inl ⟨ef, ef ▸ nmE_flat o'⟩, .inl ⟨rfl, nmE_flat _⟩⟩
      · simp -dsimp -implicitDefEqProofs (disch := omega) [go_sem, -List.getD_eq_getElem?_getD, ite_yes, ht, hk, hki, hq, hqi, lf, sf, c1, n1, n2, n3, n4, n5]
        refine AAt.of1 ?_
        refine AAny.one1 4 0 ?_
        simp -dsimp -implicitDefEqProofs (disch := omega) [go_sem, -List.getD_eq_getElem?_getD, ite_yes, ht, hk, hki, hq, hqi, lf, sf, c1, n1, n2, n3, n4, n5]
        refine AAt.of1 ?_
        refine AAny.one1 3 4 ?_
        simp -dsimp -implicitDefEqProofs (disch := omega) [go_sem, -List.getD_eq_getElem?_getD, ite_yes, ht, hk, hki, hq, hqi, lf, sf, c1, n1, n2, n3, n4, n5]
        first | refine AAt.of (by first | exact SubH.refl | exact SubH.app | exact SubH.both (by simp [subL])) ?_ | (refine ⟨?_, AAt.of (by first | exact SubH.refl | exact SubH.app | exact SubH.both (by simp [subL])) ?_⟩; · omega)
        refine AAny.one1 2 10 ?_
        simp -dsimp -implicitDefEqProofs (disch := omega) [go_sem, -List.getD_eq_getElem?_getD, ite_yes, ht, hk, hki, hq, hqi, lf, sf, c1, n1, n2, n3, n4, n5]
        first | refine AAt.of (by first | exact SubH.refl | exact SubH.app | exact SubH.both (by simp [subL])) ?_ | (refine ⟨?_, AAt.of (by first | exact SubH.refl | exact SubH.app | exact SubH.both (by simp [subL])) ?_⟩; · omega)
        refine AAny.one1 1 14 ?_
        simp -dsimp -implicitDefEqProofs (disch := omega) [go_sem, -List.getD_eq_getElem?_getD, ite_yes, ht, hk, hki, hq, hqi, lf, sf, c1, n1, n2, n3, n4, n5]
        first | refine AAt.of (by first | exact SubH.refl | exact SubH.app | exact SubH.both (by simp [subL])) ?_ | (refine ⟨?_, AAt.of (by first | exact SubH.refl | exact SubH.app | exact SubH.both (by simp [subL])) ?_⟩; · omega)
        refine AAny.takes (fuel := 0) (by kernel_rfl) (by kernel_rfl) [15] (by kernel_rfl) (by kernel_rfl) ?_
        simp -dsimp -implicitDefEqProofs (disch := omega) [go_sem, -List.getD_eq_getElem?_getD, ite_yes, ht, hk, hki, hq, hqi, lf, sf, c1, n1, n2, n3, n4, n5]
        refine AAny.done (by kernel_rfl) ?_
        simp -dsimp -implicitDefEqProofs (disch := omega) [go_sem, -List.getD_eq_getElem?_getD, ite_yes, ht, hk, hki, hq, hqi, lf, sf, c1, n1, n2, n3, n4, n5]
        refine ⟨weakS_sets [some 6, some 1] rfl ht (h.wms _ _ _ _) ?_ (by simp -dsimp -implicitDefEqProofs (disch := omega) [go_sem, -List.getD_eq_getElem?_getD, ite_yes, ht, e4])⟩
        simp -dsimp -implicitDefEqProofs (disch := omega) [go_sem, -List.getD_eq_getElem?_getD, ite_yes, ht, hk, hki, hq, hqi, lf, sf, c1, n1, n2, n3, n4, n5]
        exact ⟨.inl ⟨ef, ef ▸ nmE_flat o'⟩, .inl ⟨rfl, nmE_flat _⟩⟩
    simp -dsimp -implicitDefEqProofs (disch := omega) [go_sem, -List.getD_eq_getElem?_getD, ite_yes]
    refine LoopEnd.of ⟨o.length + 1, o', a6, s6⟩ ⟨en, by simp only; omega, by simp only; omega, by simp only; omega⟩ (by simp only; omega) (weakS_sets [some 0, some 1] rfl ht (h.wms _ _ _ _) ?_ (by simp -dsimp -implicitDefEqProofs (disch := omega) [go_sem, -List.getD_eq_getElem?_getD, ite_yes, ht, en]))
    simp -dsimp -implicitDefEqProofs (disch := omega) [go_sem, -List.getD_eq_getElem?_getD, ite_yes]
    exact ⟨.inl ⟨rfl, nmE_flat _⟩, .inl ⟨rfl, nmE_flat _⟩⟩
  have hki : ¬ (o.length : Int) < (S.length : Int) := by omega
  simp -dsimp -implicitDefEqProofs (disch := omega) [go_sem, -List.getD_eq_getElem?_getD, ite_yes, hk, hki]
  refine ACall.via (one_R ((h.step (by omega)).app _) (by omega) 16 (by omega)) ?_
  rintro _ _ ⟨b8, rfl, a8, s8, q8, q8', rfl⟩
  cases b8
  · simp -dsimp -implicitDefEqProofs (disch := omega) [go_sem, -List.getD_eq_getElem?_getD, ite_yes, si, lf]
    exact endNms h o a8 s8 0 _ _ rfl rfl (by omega) (by omega) (by omega)
  · simp -dsimp -implicitDefEqProofs (disch := omega) [go_sem, -List.getD_eq_getElem?_getD, ite_yes, si, lf]
    refine ACall.via (pick_R ((h.step (by omega)).app _) (by omega) 20 (by omega)) ?_
    rintro _ _ ⟨y, rfl, y0, y1, a6, s6, q6, q6', rfl⟩
    simp -dsimp -implicitDefEqProofs (disch := omega) [go_sem, -List.getD_eq_getElem?_getD, ite_yes, si, lf]
    refine ⟨by omega, ?_⟩
    have e3 : (o ++ [y]).length = o.length + 1 := by simp
    rw [← e3]
    exact endNms h (o ++ [y]) a6 s6 3 _ _ rfl (by simp [nmE, Heap.get_cons]) (by omega) (by omega) (by omega)
end Go.Proofs.YtncblopbcnkinaaGreat
/- Valves of which few are shut; what the laws of reopening draw. -/
namespace Go.Proofs.YtncblopbcnkinaaGreat
open Go.Am
set_option linter.unusedVariables false
set_option linter.unusedSimpArgs false
set_option maxRecDepth 100000
set_option maxHeartbeats 4000000
def PVls2 (H : Heap) (t tc n cc : Nat) (at_ : Int) (v : Value) (H' : Heap) : Prop :=
  ∃ (l : List Vl) (a s : Int), v = .slice (some ⟨H.length, 0, none⟩) l.length l.length ∧ l.length ≤ 20 ∧ at_ ≤ a ∧ a ≤ at_ + 1100 ∧ H' = H.set t (curB tc n cc a s) ++ [some ⟨l.flatMap vlE, true, 71, 4⟩]
structure ShI where
  k : Nat
  l : List Vl
  c : Nat
  a : Int
  s : Int
  cp : Nat
theorem shutFew_R {H : Heap} {t tc n cc : Nat} {at_ seed : Int} (h : Cur H t tc n cc at_ seed) (hA : at_ ≤ 100000000000000) (N : Int) (hN : N ≤ 60000) (ps : List Pp) (hp : ps.length ≤ 30) (tp cp : Nat) (hP : Sl ppE H tp ps) (hne : tp ≠ t) :
    AFunR Tryz.prog 36 [.pointer (some ⟨t, 0, none⟩), netV N tp ps.length cp] H (PVls2 H t tc n cc at_) := by
  refine AFunR.of_body Tryz.func36 (by kernel_rfl) rfl (by kernel_rfl) (by simp [Tryz.ntmps36]) ?_
  have ht := h.lt
  have p0 := h.pos
  have si := fun (x : Option Blk) (L : Heap) (y : Option Blk) => set_into (H := H) (L := L) (x := x) ht (y := y)
  have s0 := fun (L : Heap) (y : Option Blk) => set_into0 (H := H) (L := L) ht (y := y)
  have htp := hP.lt
  simp -dsimp -implicitDefEqProofs (disch := omega) [go_sem, -List.getD_eq_getElem?_getD, ite_yes, htp]
  refine ACall.via (valves_R (h.app _) (by omega) N hN ps hp tp cp hP.app hne) ?_
  rintro _ _ ⟨l, a3, s3, rfl, l1, q3, q3', rfl⟩
  simp -dsimp -implicitDefEqProofs (disch := omega) [go_sem, -List.getD_eq_getElem?_getD, ite_yes, s0]
  refine ALoop.intro (ι := ShI) (fun i => i.k ≤ i.l.length ∧ i.l.length ≤ 20 ∧ i.c ≤ i.k ∧ at_ ≤ i.a ∧ i.a ≤ at_ + 1000 + 2 * i.k) (fun i => [(0, .pointer (some ⟨t, 0, none⟩)), (5, .slice (some ⟨H.length, 0, none⟩) i.l.length i.cp), (6, .int .i64 i.c), (7, .int .i64 i.k)])
    (fun i => H.set t (curB tc n cc i.a i.s) ++ [some ⟨i.l.flatMap vlE, true, 71, 4⟩]) (fun i => i.l.length - i.k) ⟨0, l, 0, a3, s3, l.length⟩ ⟨by simp only; omega, by simp only; omega, by simp only; omega, by simp only; omega, by simp only; omega⟩ ?_ ?_
  · refine weakS_sets [some 1] rfl ht (h.wms _ _ _ _) ?_ (by simp -dsimp -implicitDefEqProofs (disch := omega) [go_sem, -List.getD_eq_getElem?_getD, ite_yes, ht])
    simp -dsimp -implicitDefEqProofs (disch := omega) [go_sem, -List.getD_eq_getElem?_getD, ite_yes]
    exact .inl ⟨rfl, vlE_flat _⟩
  clear l1 q3 q3'
  rintro ⟨k, l, c, a, s, cp⟩ ⟨i1, i2, i3, i4, i5⟩
  simp only at i1 i2 i3 i4 i5
  have lf := vlE_length l
  by_cases hk : k < l.length
  rotate_left
  · obtain rfl : k = l.length := by omega
    simp -dsimp -implicitDefEqProofs (disch := omega) [go_sem, -List.getD_eq_getElem?_getD, ite_yes, ht]
    exact EndR.of (.slice (some ⟨H.length, 0, none⟩) l.length l.length) _ ⟨l, a, s, rfl, by omega, by omega, by omega, rfl⟩ (fin_sets [some 0] rfl ht (h.wms _ _ _ _) (by simp -dsimp -implicitDefEqProofs (disch := omega) [go_sem, -List.getD_eq_getElem?_getD, ite_yes]; exact .inl ⟨rfl, vlE_flat _⟩) (by simp -dsimp -implicitDefEqProofs (disch := omega) [go_sem, -List.getD_eq_getElem?_getD, ite_yes, ht]))
  have hki : (k : Int) < (l.length : Int) := by omega
  have hkc := flatMap_cells vlE 4 (fun _ => rfl) vl0 l k hk
  have hk4 : k * 4 + 3 + 1 ≤ l.length * 4 := by omega
  have h3 : List.take 1 (List.drop (k * 4 + 3) (l.flatMap vlE)) = [.bool (l.getD k vl0).2.2.2] := by
    have h2 : List.take 1 (List.drop 3 (List.take 4 (List.drop (k * 4) (l.flatMap vlE)))) = [.bool (l.getD k vl0).2.2.2] := by rw [hkc]; rfl
    rw [List.drop_take, List.drop_drop, List.take_take] at h2
    exact h2
  cases hb : (l.getD k vl0).2.2.2 with
  | false =>
    rw [hb] at h3
    simp -dsimp -implicitDefEqProofs (disch := omega) [go_sem, -List.getD_eq_getElem?_getD, ite_yes, hk, hki, h3, hk4, lf]
    refine LoopEnd.of ⟨k + 1, l, c, a, s, cp⟩ ⟨by simp only; omega, by simp only; omega, by simp only; omega, by simp only; omega, by simp only; omega⟩ (by simp only; omega) (weakS_sets [some 0] rfl ht (h.wms _ _ _ _) ?_ (by simp -dsimp -implicitDefEqProofs (disch := omega) [go_sem, -List.getD_eq_getElem?_getD, ite_yes, ht]))
    simp -dsimp -implicitDefEqProofs (disch := omega) [go_sem, -List.getD_eq_getElem?_getD, ite_yes]
    exact .inl ⟨rfl, vlE_flat _⟩
  | true =>
  rw [hb] at h3
  by_cases hc : 4 < c + 1
  rotate_left
  · have hci : ¬ (4 : Int) < (c : Int) + 1 := by omega
    simp -dsimp -implicitDefEqProofs (disch := omega) [go_sem, -List.getD_eq_getElem?_getD, ite_yes, hk, hki, h3, hk4, lf, hci, hc]
    refine LoopEnd.of ⟨k + 1, l, c + 1, a, s, cp⟩ ⟨by simp only; omega, by simp only; omega, by simp only; omega, by simp only; omega, by simp only; omega⟩ (by simp only; omega) (weakS_sets [some 0] rfl ht (h.wms _ _ _ _) ?_ (by simp -dsimp -implicitDefEqProofs (disch := omega) [go_sem, -List.getD_eq_getElem?_getD, ite_yes, ht]))
    simp -dsimp -implicitDefEqProofs (disch := omega) [go_sem, -List.getD_eq_getElem?_getD, ite_yes]
    exact .inl ⟨rfl, vlE_flat _⟩
  have hci : (4 : Int) < (c : Int) + 1 := by omega
  simp -dsimp -implicitDefEqProofs (disch := omega) [go_sem, -List.getD_eq_getElem?_getD, ite_yes, hk, hki, h3, hk4, lf, hci, hc]
  refine ACall.via (one_R ((h.step (by omega)).app _) (by omega) 12 (by omega)) ?_
  rintro _ _ ⟨b, rfl, a4, s4, q4, q4', rfl⟩
  cases b
  · simp -dsimp -implicitDefEqProofs (disch := omega) [go_sem, -List.getD_eq_getElem?_getD, ite_yes, si]
    refine ACall.of (l4Turned_A l (by omega) cp k hk false _ _ (Sl.ofS rfl)) ?_
    simp -dsimp -implicitDefEqProofs (disch := omega) [go_sem, -List.getD_eq_getElem?_getD, ite_yes, ht]
    have ls : (l.set k ((l.getD k vl0).1, (l.getD k vl0).2.1, (l.getD k vl0).2.2.1, false)).length = l.length := by simp
    refine LoopEnd.of ⟨k + 1, l.set k ((l.getD k vl0).1, (l.getD k vl0).2.1, (l.getD k vl0).2.2.1, false), c + 1, a4, s4, 0⟩ ⟨by simp only [ls]; omega, by simp only [ls]; omega, by simp only; omega, by simp only; omega, by simp only; omega⟩ (by simp only [ls]; omega) (weakS_sets [some 1] rfl ht (h.wms _ _ _ _) ?_ (by simp only [ls]; simp -dsimp -implicitDefEqProofs (disch := omega) [go_sem, -List.getD_eq_getElem?_getD, ite_yes, ht]))
    simp -dsimp -implicitDefEqProofs (disch := omega) [go_sem, -List.getD_eq_getElem?_getD, ite_yes]
    exact .inl ⟨rfl, vlE_flat _⟩
  · simp -dsimp -implicitDefEqProofs (disch := omega) [go_sem, -List.getD_eq_getElem?_getD, ite_yes, si]
    refine LoopEnd.of ⟨k + 1, l, c + 1, a4, s4, cp⟩ ⟨by simp only; omega, by simp only; omega, by simp only; omega, by simp only; omega, by simp only; omega⟩ (by simp only; omega) (weakS_sets [some 0] rfl ht (h.wms _ _ _ _) ?_ (by simp -dsimp -implicitDefEqProofs (disch := omega) [go_sem, -List.getD_eq_getElem?_getD, ite_yes, ht]))
    simp -dsimp -implicitDefEqProofs (disch := omega) [go_sem, -List.getD_eq_getElem?_getD, ite_yes]
    exact .inl ⟨rfl, vlE_flat _⟩
def PIsO (H : Heap) (v : Value) (H' : Heap) : Prop := ∃ (N : Int) (ps : List Pp) (l : List Vl) (src : Int) (a : List Int), v = .tuple #[netV N H.length ps.length ps.length, .slice (some ⟨H.length + 1, 0, none⟩) l.length l.length, .int .i64 src, .slice (some ⟨H.length + 2, 0, none⟩) a.length a.length] ∧ N ≤ 9 ∧ ps.length ≤ 30 ∧ l.length ≤ 20 ∧ a.length ≤ 30 ∧
  H' = H ++ [some ⟨ps.flatMap ppE, true, 78, 4⟩, some ⟨l.flatMap vlE, true, 71, 4⟩, some ⟨a.flatMap nmE, true, 3, 1⟩]
def PStD (H : Heap) (v : Value) (H' : Heap) : Prop := ∃ (N : Int) (ps : List Pp) (l : List Vl) (src : Int), v = .tuple #[netV N H.length ps.length ps.length, .slice (some ⟨H.length + 1, 0, none⟩) l.length l.length, .int .i64 src] ∧ N ≤ 9 ∧ ps.length ≤ 30 ∧ l.length ≤ 20 ∧
  H' = H ++ [some ⟨ps.flatMap ppE, true, 78, 4⟩, some ⟨l.flatMap vlE, true, 71, 4⟩]
theorem isO_end {H L : Heap} {N src : Int} {ps : List Pp} {l : List Vl} {a : List Int} (j0 j1 j2 u0 u1 u2 : Nat) {c0 c1 c2 : Nat} (e0 : u0 = H.length + j0) (e1 : u1 = H.length + j1) (e2 : u2 = H.length + j2) (hn : jsOk [some j0, some j1, some j2] = true)
    (h0 : Heap.get L j0 = some ⟨ps.flatMap ppE, true, 78, 4⟩) (h1 : Heap.get L j1 = some ⟨l.flatMap vlE, true, 71, 4⟩) (h2 : Heap.get L j2 = some ⟨a.flatMap nmE, true, 3, 1⟩)
    (hN : N ≤ 9) (hp : ps.length ≤ 30) (hl : l.length ≤ 20) (ha : a.length ≤ 30) :
    EndR H (PIsO H) (.tuple #[netV N u0 ps.length c0, .slice (some ⟨u1, 0, none⟩) l.length c1, .int .i64 src, .slice (some ⟨u2, 0, none⟩) a.length c2]) (H ++ L) := by
  subst e0 e1 e2
  refine EndR.of (.tuple #[netV N H.length ps.length ps.length, .slice (some ⟨H.length + 1, 0, none⟩) l.length l.length, .int .i64 src, .slice (some ⟨H.length + 2, 0, none⟩) a.length a.length]) _ ⟨N, ps, l, src, a, rfl, hN, hp, hl, ha, rfl⟩ (fin_list [some j0, some j1, some j2] hn ?_ (by simp -dsimp -implicitDefEqProofs (disch := omega) [go_sem, -List.getD_eq_getElem?_getD, ite_yes, sg] <;> omega))
  simp only [wkL, h0, h1, h2]
  exact ⟨⟨trivial, trivial, id, .inl ⟨rfl, ppE_flat _⟩⟩, ⟨trivial, trivial, id, .inl ⟨rfl, vlE_flat _⟩⟩, ⟨trivial, trivial, id, .inl ⟨rfl, nmE_flat _⟩⟩, trivial⟩
theorem stD_end {H L : Heap} {N src : Int} {ps : List Pp} {l : List Vl} (j0 j1 u0 u1 : Nat) {c0 c1 : Nat} (e0 : u0 = H.length + j0) (e1 : u1 = H.length + j1) (hn : jsOk [some j0, some j1] = true)
    (h0 : Heap.get L j0 = some ⟨ps.flatMap ppE, true, 78, 4⟩) (h1 : Heap.get L j1 = some ⟨l.flatMap vlE, true, 71, 4⟩)
    (hN : N ≤ 9) (hp : ps.length ≤ 30) (hl : l.length ≤ 20) :
    EndR H (PStD H) (.tuple #[netV N u0 ps.length c0, .slice (some ⟨u1, 0, none⟩) l.length c1, .int .i64 src]) (H ++ L) := by
  subst e0 e1
  refine EndR.of (.tuple #[netV N H.length ps.length ps.length, .slice (some ⟨H.length + 1, 0, none⟩) l.length l.length, .int .i64 src]) _ ⟨N, ps, l, src, rfl, hN, hp, hl, rfl⟩ (fin_list [some j0, some j1] hn ?_ (by simp -dsimp -implicitDefEqProofs (disch := omega) [go_sem, -List.getD_eq_getElem?_getD, ite_yes, sg] <;> omega))
  simp only [wkL, h0, h1]
  exact ⟨⟨trivial, trivial, id, .inl ⟨rfl, ppE_flat _⟩⟩, ⟨trivial, trivial, id, .inl ⟨rfl, vlE_flat _⟩⟩, trivial⟩
theorem drawIsOrder_R {H : Heap} {tc n : Nat} (h : Bytes H tc n) (cc : Nat) : AFunR Tryz.prog 19 [.slice (some ⟨tc, 0, none⟩) n cc] H (PIsO H) := by
  refine AFunR.of_body Tryz.func19 (by kernel_rfl) rfl (by kernel_rfl) (by simp [Tryz.ntmps19]) ?_
  have ht := h.lt
  simp -dsimp -implicitDefEqProofs (disch := omega) [go_sem, -List.getD_eq_getElem?_getD, ite_yes]
  refine ACall.via (anyNetwork_R (h.curJ 1 rfl (by omega)) (by omega)) ?_
  rintro _ _ ⟨N, ps, a1, s1, rfl, hN0, hN9, hp, q1, q1', rfl⟩
  simp -dsimp -implicitDefEqProofs (disch := omega) [go_sem, -List.getD_eq_getElem?_getD, ite_yes]
  refine ACall.via (shutFew_R (h.curJ 1 rfl (by omega)) (by omega) N (by omega) ps hp _ _ (Sl.nth 2 rfl rfl) (by omega)) ?_
  rintro _ _ ⟨l, a2, s2, rfl, hl, q2, q2', rfl⟩
  simp -dsimp -implicitDefEqProofs (disch := omega) [go_sem, -List.getD_eq_getElem?_getD, ite_yes]
  refine ADraw.any [] (by kernel_rfl) (SubH.nil) ?_
  refine AAny.takes (fuel := 8) (by kernel_rfl) (by kernel_rfl) [1, 2, 5, 6] (by kernel_rfl) (by kernel_rfl) ?_
  simp -dsimp -implicitDefEqProofs (disch := omega) [go_sem, -List.getD_eq_getElem?_getD, ite_yes, ht]
  refine AAny.two 7 0 3 (by kernel_rfl) (by kernel_rfl) (by kernel_rfl) ?_ ?_
  · simp -dsimp -implicitDefEqProofs (disch := omega) [go_sem, -List.getD_eq_getElem?_getD, ite_yes, ht]
    refine AAt.of (SubH.nil) ?_
    refine AAny.one1 6 3 ?_
    simp -dsimp -implicitDefEqProofs (disch := omega) [go_sem, -List.getD_eq_getElem?_getD, ite_yes, ht]
    refine AAt.of (SubH.nil) ?_
    refine AAny.one1 5 4 ?_
    simp -dsimp -implicitDefEqProofs (disch := omega) [go_sem, -List.getD_eq_getElem?_getD, ite_yes, ht]
    refine ACall.via (nodeOf_R (h.curJ 1 rfl (by omega)) (by omega) N (by omega) _ _ _ (by simp)) ?_
    rintro _ _ ⟨src, a3, s3, rfl, q3, q3', rfl⟩
    simp -dsimp -implicitDefEqProofs (disch := omega) [go_sem, -List.getD_eq_getElem?_getD, ite_yes, ht]
    refine AAt.of (SubH.nil) ?_
    refine AAny.one1 4 7 ?_
    simp -dsimp -implicitDefEqProofs (disch := omega) [go_sem, -List.getD_eq_getElem?_getD, ite_yes, ht]
    refine ACall.via (orderOf_R (h.curJ 1 rfl (by omega)) (by omega) l hl _ _ (Sl.nth 4 rfl rfl)) ?_
    rintro _ _ ⟨a, a4, s4, rfl, ha, q4, q4', rfl⟩
    simp -dsimp -implicitDefEqProofs (disch := omega) [go_sem, -List.getD_eq_getElem?_getD, ite_yes, ht]
    refine AAt.of (SubH.nil) ?_
    refine AAny.one1 3 8 ?_
    simp -dsimp -implicitDefEqProofs (disch := omega) [go_sem, -List.getD_eq_getElem?_getD, ite_yes, ht]
    refine AAt.of (SubH.nil) ?_
    refine AAny.takes (fuel := 0) (by kernel_rfl) (by kernel_rfl) [9, 10, 11] (by kernel_rfl) (by kernel_rfl) ?_
    simp -dsimp -implicitDefEqProofs (disch := omega) [go_sem, -List.getD_eq_getElem?_getD, ite_yes, ht]
    refine AAny.done (by kernel_rfl) ?_
    simp -dsimp -implicitDefEqProofs (disch := omega) [go_sem, -List.getD_eq_getElem?_getD, ite_yes, ht]
    exact isO_end 2 4 5 _ _ _ rfl rfl rfl rfl rfl rfl rfl hN9 hp hl ha
  · simp -dsimp -implicitDefEqProofs (disch := omega) [go_sem, -List.getD_eq_getElem?_getD, ite_yes, ht]
    refine AAt.of (SubH.nil) ?_
    refine AAny.two 6 0 4 (by kernel_rfl) (by kernel_rfl) (by kernel_rfl) ?_ ?_
    · simp -dsimp -implicitDefEqProofs (disch := omega) [go_sem, -List.getD_eq_getElem?_getD, ite_yes, ht]
      refine AAt.of (SubH.nil) ?_
      refine AAny.one1 5 4 ?_
      simp -dsimp -implicitDefEqProofs (disch := omega) [go_sem, -List.getD_eq_getElem?_getD, ite_yes, ht]
      refine ACall.via (nodeOf_R (h.curJ 1 rfl (by omega)) (by omega) N (by omega) _ _ _ (by simp)) ?_
      rintro _ _ ⟨src, a3, s3, rfl, q3, q3', rfl⟩
      simp -dsimp -implicitDefEqProofs (disch := omega) [go_sem, -List.getD_eq_getElem?_getD, ite_yes, ht]
      refine AAt.of (SubH.nil) ?_
      refine AAny.one1 4 7 ?_
      simp -dsimp -implicitDefEqProofs (disch := omega) [go_sem, -List.getD_eq_getElem?_getD, ite_yes, ht]
      refine ACall.via (orderOf_R (h.curJ 1 rfl (by omega)) (by omega) l hl _ _ (Sl.nth 4 rfl rfl)) ?_
      rintro _ _ ⟨a, a4, s4, rfl, ha, q4, q4', rfl⟩
      simp -dsimp -implicitDefEqProofs (disch := omega) [go_sem, -List.getD_eq_getElem?_getD, ite_yes, ht]
      refine AAt.of (SubH.nil) ?_
      refine AAny.one1 3 8 ?_
      simp -dsimp -implicitDefEqProofs (disch := omega) [go_sem, -List.getD_eq_getElem?_getD, ite_yes, ht]
      refine AAt.of (SubH.nil) ?_
      refine AAny.takes (fuel := 0) (by kernel_rfl) (by kernel_rfl) [9, 10, 11] (by kernel_rfl) (by kernel_rfl) ?_
      simp -dsimp -implicitDefEqProofs (disch := omega) [go_sem, -List.getD_eq_getElem?_getD, ite_yes, ht]
      refine AAny.done (by kernel_rfl) ?_
      simp -dsimp -implicitDefEqProofs (disch := omega) [go_sem, -List.getD_eq_getElem?_getD, ite_yes, ht]
      exact isO_end 2 4 5 _ _ _ rfl rfl rfl rfl rfl rfl rfl hN9 hp hl ha
    · simp -dsimp -implicitDefEqProofs (disch := omega) [go_sem, -List.getD_eq_getElem?_getD, ite_yes, ht]
      refine ACall.via (nodeOf_R (h.curJ 1 rfl (by omega)) (by omega) N (by omega) _ _ _ (by simp)) ?_
      rintro _ _ ⟨src, a3, s3, rfl, q3, q3', rfl⟩
      simp -dsimp -implicitDefEqProofs (disch := omega) [go_sem, -List.getD_eq_getElem?_getD, ite_yes, ht]
      refine AAt.of (SubH.nil) ?_
      refine AAny.two 5 0 7 (by kernel_rfl) (by kernel_rfl) (by kernel_rfl) ?_ ?_
      · simp -dsimp -implicitDefEqProofs (disch := omega) [go_sem, -List.getD_eq_getElem?_getD, ite_yes, ht]
        refine AAt.of (SubH.nil) ?_
        refine AAny.one1 4 7 ?_
        simp -dsimp -implicitDefEqProofs (disch := omega) [go_sem, -List.getD_eq_getElem?_getD, ite_yes, ht]
        refine ACall.via (orderOf_R (h.curJ 1 rfl (by omega)) (by omega) l hl _ _ (Sl.nth 4 rfl rfl)) ?_
        rintro _ _ ⟨a, a4, s4, rfl, ha, q4, q4', rfl⟩
        simp -dsimp -implicitDefEqProofs (disch := omega) [go_sem, -List.getD_eq_getElem?_getD, ite_yes, ht]
        refine AAt.of (SubH.nil) ?_
        refine AAny.one1 3 8 ?_
        simp -dsimp -implicitDefEqProofs (disch := omega) [go_sem, -List.getD_eq_getElem?_getD, ite_yes, ht]
        refine AAt.of (SubH.nil) ?_
        refine AAny.takes (fuel := 0) (by kernel_rfl) (by kernel_rfl) [9, 10, 11] (by kernel_rfl) (by kernel_rfl) ?_
        simp -dsimp -implicitDefEqProofs (disch := omega) [go_sem, -List.getD_eq_getElem?_getD, ite_yes, ht]
        refine AAny.done (by kernel_rfl) ?_
        simp -dsimp -implicitDefEqProofs (disch := omega) [go_sem, -List.getD_eq_getElem?_getD, ite_yes, ht]
        exact isO_end 2 4 5 _ _ _ rfl rfl rfl rfl rfl rfl rfl hN9 hp hl ha
      · simp -dsimp -implicitDefEqProofs (disch := omega) [go_sem, -List.getD_eq_getElem?_getD, ite_yes, ht]
        refine ACall.via (orderOf_R (h.curJ 1 rfl (by omega)) (by omega) l hl _ _ (Sl.nth 4 rfl rfl)) ?_
        rintro _ _ ⟨a, a4, s4, rfl, ha, q4, q4', rfl⟩
        simp -dsimp -implicitDefEqProofs (disch := omega) [go_sem, -List.getD_eq_getElem?_getD, ite_yes, ht]
        refine AAt.of (SubH.nil) ?_
        refine AAny.one1 4 0 ?_
        simp -dsimp -implicitDefEqProofs (disch := omega) [go_sem, -List.getD_eq_getElem?_getD, ite_yes, ht]
        refine AAt.of (SubH.nil) ?_
        refine AAny.one1 3 8 ?_
        simp -dsimp -implicitDefEqProofs (disch := omega) [go_sem, -List.getD_eq_getElem?_getD, ite_yes, ht]
        refine AAt.of (SubH.nil) ?_
        refine AAny.takes (fuel := 0) (by kernel_rfl) (by kernel_rfl) [9, 10, 11] (by kernel_rfl) (by kernel_rfl) ?_
        simp -dsimp -implicitDefEqProofs (disch := omega) [go_sem, -List.getD_eq_getElem?_getD, ite_yes, ht]
        refine AAny.done (by kernel_rfl) ?_
        simp -dsimp -implicitDefEqProofs (disch := omega) [go_sem, -List.getD_eq_getElem?_getD, ite_yes, ht]
        exact isO_end 2 4 5 _ _ _ rfl rfl rfl rfl rfl rfl rfl hN9 hp hl ha
theorem drawIsGentle_R {H : Heap} {tc n : Nat} (h : Bytes H tc n) (cc : Nat) : AFunR Tryz.prog 16 [.slice (some ⟨tc, 0, none⟩) n cc] H (PIsO H) := by
  refine AFunR.of_body Tryz.func16 (by kernel_rfl) rfl (by kernel_rfl) (by simp [Tryz.ntmps16]) ?_
  have ht := h.lt
  simp -dsimp -implicitDefEqProofs (disch := omega) [go_sem, -List.getD_eq_getElem?_getD, ite_yes]
  refine ACall.via (drawIsOrder_R (h.app _) cc) ?_
  rintro _ _ ⟨N, ps, l, src, a, rfl, hN, hp, hl, ha, rfl⟩
  simp -dsimp -implicitDefEqProofs (disch := omega) [go_sem, -List.getD_eq_getElem?_getD, ite_yes]
  exact isO_end 1 2 3 _ _ _ rfl rfl rfl rfl rfl rfl rfl hN hp hl ha
def PWaO (H : Heap) (v : Value) (H' : Heap) : Prop := ∃ (N : Int) (ps : List Pp) (l : List Vl) (src : Int) (a cu : List Int), v = .tuple #[netV N H.length ps.length ps.length, .slice (some ⟨H.length + 1, 0, none⟩) l.length l.length, .int .i64 src, .slice (some ⟨H.length + 2, 0, none⟩) a.length a.length, .slice (some ⟨H.length + 3, 0, none⟩) cu.length cu.length] ∧ N ≤ 9 ∧ ps.length ≤ 30 ∧ l.length ≤ 20 ∧ a.length ≤ 30 ∧ cu.length ≤ 30 ∧
  H' = H ++ [some ⟨ps.flatMap ppE, true, 78, 4⟩, some ⟨l.flatMap vlE, true, 71, 4⟩, some ⟨a.flatMap nmE, true, 3, 1⟩, some ⟨cu.flatMap nmE, true, 3, 1⟩]
theorem waO_end {H L : Heap} {N src : Int} {ps : List Pp} {l : List Vl} {a cu : List Int} (j0 j1 j2 j3 u0 u1 u2 u3 : Nat) {c0 c1 c2 c3 : Nat} (e0 : u0 = H.length + j0) (e1 : u1 = H.length + j1) (e2 : u2 = H.length + j2) (e3 : u3 = H.length + j3) (hn : jsOk [some j0, some j1, some j2, some j3] = true)
    (h0 : Heap.get L j0 = some ⟨ps.flatMap ppE, true, 78, 4⟩) (h1 : Heap.get L j1 = some ⟨l.flatMap vlE, true, 71, 4⟩) (h2 : Heap.get L j2 = some ⟨a.flatMap nmE, true, 3, 1⟩) (h3 : Heap.get L j3 = some ⟨cu.flatMap nmE, true, 3, 1⟩)
    (hN : N ≤ 9) (hp : ps.length ≤ 30) (hl : l.length ≤ 20) (ha : a.length ≤ 30) (hc : cu.length ≤ 30) :
    EndR H (PWaO H) (.tuple #[netV N u0 ps.length c0, .slice (some ⟨u1, 0, none⟩) l.length c1, .int .i64 src, .slice (some ⟨u2, 0, none⟩) a.length c2, .slice (some ⟨u3, 0, none⟩) cu.length c3]) (H ++ L) := by
  subst e0 e1 e2 e3
  refine EndR.of (.tuple #[netV N H.length ps.length ps.length, .slice (some ⟨H.length + 1, 0, none⟩) l.length l.length, .int .i64 src, .slice (some ⟨H.length + 2, 0, none⟩) a.length a.length, .slice (some ⟨H.length + 3, 0, none⟩) cu.length cu.length]) _ ⟨N, ps, l, src, a, cu, rfl, hN, hp, hl, ha, hc, rfl⟩ (fin_list [some j0, some j1, some j2, some j3] hn ?_ (by simp -dsimp -implicitDefEqProofs (disch := omega) [go_sem, -List.getD_eq_getElem?_getD, ite_yes, sg] <;> omega))
  simp only [wkL, h0, h1, h2, h3]
  exact ⟨⟨trivial, trivial, id, .inl ⟨rfl, ppE_flat _⟩⟩, ⟨trivial, trivial, id, .inl ⟨rfl, vlE_flat _⟩⟩, ⟨trivial, trivial, id, .inl ⟨rfl, nmE_flat _⟩⟩, ⟨trivial, trivial, id, .inl ⟨rfl, nmE_flat _⟩⟩, trivial⟩
theorem drawWaiting_R {H : Heap} {tc n : Nat} (h : Bytes H tc n) (cc : Nat) : AFunR Tryz.prog 5 [.slice (some ⟨tc, 0, none⟩) n cc] H (PWaO H) := by
  refine AFunR.of_body Tryz.func5 (by kernel_rfl) rfl (by kernel_rfl) (by simp [Tryz.ntmps5]) ?_
  have ht := h.lt
  simp -dsimp -implicitDefEqProofs (disch := omega) [go_sem, -List.getD_eq_getElem?_getD, ite_yes]
  refine ACall.via (drawIsOrder_R (h.app _) cc) ?_
  rintro _ _ ⟨N, ps, l, src, a, rfl, hN, hp, hl, ha, rfl⟩
  simp -dsimp -implicitDefEqProofs (disch := omega) [go_sem, -List.getD_eq_getElem?_getD, ite_yes]
  refine ADraw.any [] (by kernel_rfl) (SubH.nil) ?_
  refine AAny.takes (fuel := 8) (by kernel_rfl) (by kernel_rfl) [1, 2, 3, 4] (by kernel_rfl) (by kernel_rfl) ?_
  simp -dsimp -implicitDefEqProofs (disch := omega) [go_sem, -List.getD_eq_getElem?_getD, ite_yes, ht]
  refine AAny.two 7 0 5 (by kernel_rfl) (by kernel_rfl) (by kernel_rfl) ?_ ?_
  · simp -dsimp -implicitDefEqProofs (disch := omega) [go_sem, -List.getD_eq_getElem?_getD, ite_yes, ht]
    refine AAt.of (SubH.nil) ?_
    refine AAny.one1 6 5 ?_
    simp -dsimp -implicitDefEqProofs (disch := omega) [go_sem, -List.getD_eq_getElem?_getD, ite_yes, ht]
    refine AAt.of (SubH.nil) ?_
    refine AAny.one1 5 6 ?_
    simp -dsimp -implicitDefEqProofs (disch := omega) [go_sem, -List.getD_eq_getElem?_getD, ite_yes, ht]
    refine ACall.via (customers_R (h.curJ 5 rfl (by omega)) (by omega) N (by omega) _ _ _ (by simp)) ?_
    rintro _ _ ⟨cu, a4, s4, rfl, hc, q4, q4', rfl⟩
    simp -dsimp -implicitDefEqProofs (disch := omega) [go_sem, -List.getD_eq_getElem?_getD, ite_yes, ht]
    refine AAt.of (SubH.nil) ?_
    refine AAny.one1 4 7 ?_
    simp -dsimp -implicitDefEqProofs (disch := omega) [go_sem, -List.getD_eq_getElem?_getD, ite_yes, ht]
    refine AAt.of (SubH.nil) ?_
    refine AAny.takes (fuel := 0) (by kernel_rfl) (by kernel_rfl) [8, 9, 10, 11] (by kernel_rfl) (by kernel_rfl) ?_
    simp -dsimp -implicitDefEqProofs (disch := omega) [go_sem, -List.getD_eq_getElem?_getD, ite_yes, ht]
    refine AAny.done (by kernel_rfl) ?_
    simp -dsimp -implicitDefEqProofs (disch := omega) [go_sem, -List.getD_eq_getElem?_getD, ite_yes, ht]
    exact waO_end 1 2 3 6 _ _ _ _ rfl rfl rfl rfl rfl rfl rfl rfl rfl hN hp hl ha hc
  · simp -dsimp -implicitDefEqProofs (disch := omega) [go_sem, -List.getD_eq_getElem?_getD, ite_yes, ht]
    refine AAt.of (SubH.nil) ?_
    refine AAny.two 6 0 6 (by kernel_rfl) (by kernel_rfl) (by kernel_rfl) ?_ ?_
    · simp -dsimp -implicitDefEqProofs (disch := omega) [go_sem, -List.getD_eq_getElem?_getD, ite_yes, ht]
      refine AAt.of (SubH.nil) ?_
      refine AAny.one1 5 6 ?_
      simp -dsimp -implicitDefEqProofs (disch := omega) [go_sem, -List.getD_eq_getElem?_getD, ite_yes, ht]
      refine ACall.via (customers_R (h.curJ 5 rfl (by omega)) (by omega) N (by omega) _ _ _ (by simp)) ?_
      rintro _ _ ⟨cu, a4, s4, rfl, hc, q4, q4', rfl⟩
      simp -dsimp -implicitDefEqProofs (disch := omega) [go_sem, -List.getD_eq_getElem?_getD, ite_yes, ht]
      refine AAt.of (SubH.nil) ?_
      refine AAny.one1 4 7 ?_
      simp -dsimp -implicitDefEqProofs (disch := omega) [go_sem, -List.getD_eq_getElem?_getD, ite_yes, ht]
      refine AAt.of (SubH.nil) ?_
      refine AAny.takes (fuel := 0) (by kernel_rfl) (by kernel_rfl) [8, 9, 10, 11] (by kernel_rfl) (by kernel_rfl) ?_
      simp -dsimp -implicitDefEqProofs (disch := omega) [go_sem, -List.getD_eq_getElem?_getD, ite_yes, ht]
      refine AAny.done (by kernel_rfl) ?_
      simp -dsimp -implicitDefEqProofs (disch := omega) [go_sem, -List.getD_eq_getElem?_getD, ite_yes, ht]
      exact waO_end 1 2 3 6 _ _ _ _ rfl rfl rfl rfl rfl rfl rfl rfl rfl hN hp hl ha hc
    · simp -dsimp -implicitDefEqProofs (disch := omega) [go_sem, -List.getD_eq_getElem?_getD, ite_yes, ht]
      refine ACall.via (customers_R (h.curJ 5 rfl (by omega)) (by omega) N (by omega) _ _ _ (by simp)) ?_
      rintro _ _ ⟨cu, a4, s4, rfl, hc, q4, q4', rfl⟩
      simp -dsimp -implicitDefEqProofs (disch := omega) [go_sem, -List.getD_eq_getElem?_getD, ite_yes, ht]
      refine AAt.of (SubH.nil) ?_
      refine AAny.one1 5 0 ?_
      simp -dsimp -implicitDefEqProofs (disch := omega) [go_sem, -List.getD_eq_getElem?_getD, ite_yes, ht]
      refine AAt.of (SubH.nil) ?_
      refine AAny.one1 4 7 ?_
      simp -dsimp -implicitDefEqProofs (disch := omega) [go_sem, -List.getD_eq_getElem?_getD, ite_yes, ht]
      refine AAt.of (SubH.nil) ?_
      refine AAny.takes (fuel := 0) (by kernel_rfl) (by kernel_rfl) [8, 9, 10, 11] (by kernel_rfl) (by kernel_rfl) ?_
      simp -dsimp -implicitDefEqProofs (disch := omega) [go_sem, -List.getD_eq_getElem?_getD, ite_yes, ht]
      refine AAny.done (by kernel_rfl) ?_
      simp -dsimp -implicitDefEqProofs (disch := omega) [go_sem, -List.getD_eq_getElem?_getD, ite_yes, ht]
      exact waO_end 1 2 3 6 _ _ _ _ rfl rfl rfl rfl rfl rfl rfl rfl rfl hN hp hl ha hc
theorem drawBest_R {H : Heap} {tc n : Nat} (h : Bytes H tc n) (cc : Nat) : AFunR Tryz.prog 12 [.slice (some ⟨tc, 0, none⟩) n cc] H (PIsO H) := by
  refine AFunR.of_body Tryz.func12 (by kernel_rfl) rfl (by kernel_rfl) (by simp [Tryz.ntmps12]) ?_
  have ht := h.lt
  simp -dsimp -implicitDefEqProofs (disch := omega) [go_sem, -List.getD_eq_getElem?_getD, ite_yes]
  refine ACall.via (anyNetwork_R (h.curJ 1 rfl (by omega)) (by omega)) ?_
  rintro _ _ ⟨N, ps, a1, s1, rfl, hN0, hN9, hp, q1, q1', rfl⟩
  simp -dsimp -implicitDefEqProofs (disch := omega) [go_sem, -List.getD_eq_getElem?_getD, ite_yes]
  refine ACall.via (shutFew_R (h.curJ 1 rfl (by omega)) (by omega) N (by omega) ps hp _ _ (Sl.nth 2 rfl rfl) (by omega)) ?_
  rintro _ _ ⟨l, a2, s2, rfl, hl, q2, q2', rfl⟩
  simp -dsimp -implicitDefEqProofs (disch := omega) [go_sem, -List.getD_eq_getElem?_getD, ite_yes]
  refine ADraw.any [] (by kernel_rfl) (SubH.nil) ?_
  refine AAny.takes (fuel := 9) (by kernel_rfl) (by kernel_rfl) [1, 2, 5] (by kernel_rfl) (by kernel_rfl) ?_
  simp -dsimp -implicitDefEqProofs (disch := omega) [go_sem, -List.getD_eq_getElem?_getD, ite_yes, ht]
  refine AAny.three 8 0 3 6 (by kernel_rfl) (by kernel_rfl) (by kernel_rfl) ?_ ?_ ?_
  · simp -dsimp -implicitDefEqProofs (disch := omega) [go_sem, -List.getD_eq_getElem?_getD, ite_yes, ht]
    refine AAt.of (SubH.nil) ?_
    refine AAny.two 7 3 6 (by kernel_rfl) (by kernel_rfl) (by kernel_rfl) ?_ ?_
    · simp -dsimp -implicitDefEqProofs (disch := omega) [go_sem, -List.getD_eq_getElem?_getD, ite_yes, ht]
      refine AAt.of (SubH.nil) ?_
      refine AAny.two 6 4 6 (by kernel_rfl) (by kernel_rfl) (by kernel_rfl) ?_ ?_
      · simp -dsimp -implicitDefEqProofs (disch := omega) [go_sem, -List.getD_eq_getElem?_getD, ite_yes, ht]
        refine ACall.via (nodeOf_R (h.curJ 1 rfl (by omega)) (by omega) N (by omega) _ _ _ (by simp)) ?_
        rintro _ _ ⟨src, a3, s3, rfl, q3, q3', rfl⟩
        simp -dsimp -implicitDefEqProofs (disch := omega) [go_sem, -List.getD_eq_getElem?_getD, ite_yes, ht]
        refine AAt.of (SubH.nil) ?_
        refine AAny.one1 5 6 ?_
        simp -dsimp -implicitDefEqProofs (disch := omega) [go_sem, -List.getD_eq_getElem?_getD, ite_yes, ht]
        refine AAt.of (SubH.nil) ?_
        refine AAny.one1 4 7 ?_
        simp -dsimp -implicitDefEqProofs (disch := omega) [go_sem, -List.getD_eq_getElem?_getD, ite_yes, ht]
        refine ACall.via (customers_R (h.curJ 1 rfl (by omega)) (by omega) N (by omega) _ _ _ (by simp)) ?_
        rintro _ _ ⟨a, a4, s4, rfl, ha, q4, q4', rfl⟩
        simp -dsimp -implicitDefEqProofs (disch := omega) [go_sem, -List.getD_eq_getElem?_getD, ite_yes, ht]
        refine AAt.of (SubH.nil) ?_
        refine AAny.one1 3 8 ?_
        simp -dsimp -implicitDefEqProofs (disch := omega) [go_sem, -List.getD_eq_getElem?_getD, ite_yes, ht]
        refine AAt.of (SubH.nil) ?_
        refine AAny.takes (fuel := 0) (by kernel_rfl) (by kernel_rfl) [9, 10, 11] (by kernel_rfl) (by kernel_rfl) ?_
        simp -dsimp -implicitDefEqProofs (disch := omega) [go_sem, -List.getD_eq_getElem?_getD, ite_yes, ht]
        refine AAny.done (by kernel_rfl) ?_
        simp -dsimp -implicitDefEqProofs (disch := omega) [go_sem, -List.getD_eq_getElem?_getD, ite_yes, ht]
        exact isO_end 2 4 5 _ _ _ rfl rfl rfl rfl rfl rfl rfl hN9 hp hl ha
      · simp -dsimp -implicitDefEqProofs (disch := omega) [go_sem, -List.getD_eq_getElem?_getD, ite_yes, ht]
        refine AAt.of (SubH.nil) ?_
        refine AAny.one1 5 4 ?_
        simp -dsimp -implicitDefEqProofs (disch := omega) [go_sem, -List.getD_eq_getElem?_getD, ite_yes, ht]
        refine ACall.via (nodeOf_R (h.curJ 1 rfl (by omega)) (by omega) N (by omega) _ _ _ (by simp)) ?_
        rintro _ _ ⟨src, a3, s3, rfl, q3, q3', rfl⟩
        simp -dsimp -implicitDefEqProofs (disch := omega) [go_sem, -List.getD_eq_getElem?_getD, ite_yes, ht]
        refine AAt.of (SubH.nil) ?_
        refine AAny.one1 4 7 ?_
        simp -dsimp -implicitDefEqProofs (disch := omega) [go_sem, -List.getD_eq_getElem?_getD, ite_yes, ht]
        refine ACall.via (customers_R (h.curJ 1 rfl (by omega)) (by omega) N (by omega) _ _ _ (by simp)) ?_
        rintro _ _ ⟨a, a4, s4, rfl, ha, q4, q4', rfl⟩
        simp -dsimp -implicitDefEqProofs (disch := omega) [go_sem, -List.getD_eq_getElem?_getD, ite_yes, ht]
        refine AAt.of (SubH.nil) ?_
        refine AAny.one1 3 8 ?_
        simp -dsimp -implicitDefEqProofs (disch := omega) [go_sem, -List.getD_eq_getElem?_getD, ite_yes, ht]
        refine AAt.of (SubH.nil) ?_
        refine AAny.takes (fuel := 0) (by kernel_rfl) (by kernel_rfl) [9, 10, 11] (by kernel_rfl) (by kernel_rfl) ?_
        simp -dsimp -implicitDefEqProofs (disch := omega) [go_sem, -List.getD_eq_getElem?_getD, ite_yes, ht]
        refine AAny.done (by kernel_rfl) ?_
        simp -dsimp -implicitDefEqProofs (disch := omega) [go_sem, -List.getD_eq_getElem?_getD, ite_yes, ht]
        exact isO_end 2 4 5 _ _ _ rfl rfl rfl rfl rfl rfl rfl hN9 hp hl ha
    · simp -dsimp -implicitDefEqProofs (disch := omega) [go_sem, -List.getD_eq_getElem?_getD, ite_yes, ht]
      refine AAt.of (SubH.nil) ?_
      refine AAny.one1 6 3 ?_
      simp -dsimp -implicitDefEqProofs (disch := omega) [go_sem, -List.getD_eq_getElem?_getD, ite_yes, ht]
      refine AAt.of (SubH.nil) ?_
      refine AAny.one1 5 4 ?_
      simp -dsimp -implicitDefEqProofs (disch := omega) [go_sem, -List.getD_eq_getElem?_getD, ite_yes, ht]
      refine ACall.via (nodeOf_R (h.curJ 1 rfl (by omega)) (by omega) N (by omega) _ _ _ (by simp)) ?_
      rintro _ _ ⟨src, a3, s3, rfl, q3, q3', rfl⟩
      simp -dsimp -implicitDefEqProofs (disch := omega) [go_sem, -List.getD_eq_getElem?_getD, ite_yes, ht]
      refine AAt.of (SubH.nil) ?_
      refine AAny.one1 4 7 ?_
      simp -dsimp -implicitDefEqProofs (disch := omega) [go_sem, -List.getD_eq_getElem?_getD, ite_yes, ht]
      refine ACall.via (customers_R (h.curJ 1 rfl (by omega)) (by omega) N (by omega) _ _ _ (by simp)) ?_
      rintro _ _ ⟨a, a4, s4, rfl, ha, q4, q4', rfl⟩
      simp -dsimp -implicitDefEqProofs (disch := omega) [go_sem, -List.getD_eq_getElem?_getD, ite_yes, ht]
      refine AAt.of (SubH.nil) ?_
      refine AAny.one1 3 8 ?_
      simp -dsimp -implicitDefEqProofs (disch := omega) [go_sem, -List.getD_eq_getElem?_getD, ite_yes, ht]
      refine AAt.of (SubH.nil) ?_
      refine AAny.takes (fuel := 0) (by kernel_rfl) (by kernel_rfl) [9, 10, 11] (by kernel_rfl) (by kernel_rfl) ?_
      simp -dsimp -implicitDefEqProofs (disch := omega) [go_sem, -List.getD_eq_getElem?_getD, ite_yes, ht]
      refine AAny.done (by kernel_rfl) ?_
      simp -dsimp -implicitDefEqProofs (disch := omega) [go_sem, -List.getD_eq_getElem?_getD, ite_yes, ht]
      exact isO_end 2 4 5 _ _ _ rfl rfl rfl rfl rfl rfl rfl hN9 hp hl ha
  · simp -dsimp -implicitDefEqProofs (disch := omega) [go_sem, -List.getD_eq_getElem?_getD, ite_yes, ht]
    refine AAt.of (SubH.nil) ?_
    refine AAny.three 7 0 4 6 (by kernel_rfl) (by kernel_rfl) (by kernel_rfl) ?_ ?_ ?_
    · simp -dsimp -implicitDefEqProofs (disch := omega) [go_sem, -List.getD_eq_getElem?_getD, ite_yes, ht]
      refine AAt.of (SubH.nil) ?_
      refine AAny.two 6 4 6 (by kernel_rfl) (by kernel_rfl) (by kernel_rfl) ?_ ?_
      · simp -dsimp -implicitDefEqProofs (disch := omega) [go_sem, -List.getD_eq_getElem?_getD, ite_yes, ht]
        refine ACall.via (nodeOf_R (h.curJ 1 rfl (by omega)) (by omega) N (by omega) _ _ _ (by simp)) ?_
        rintro _ _ ⟨src, a3, s3, rfl, q3, q3', rfl⟩
        simp -dsimp -implicitDefEqProofs (disch := omega) [go_sem, -List.getD_eq_getElem?_getD, ite_yes, ht]
        refine AAt.of (SubH.nil) ?_
        refine AAny.one1 5 6 ?_
        simp -dsimp -implicitDefEqProofs (disch := omega) [go_sem, -List.getD_eq_getElem?_getD, ite_yes, ht]
        refine AAt.of (SubH.nil) ?_
        refine AAny.one1 4 7 ?_
        simp -dsimp -implicitDefEqProofs (disch := omega) [go_sem, -List.getD_eq_getElem?_getD, ite_yes, ht]
        refine ACall.via (customers_R (h.curJ 1 rfl (by omega)) (by omega) N (by omega) _ _ _ (by simp)) ?_
        rintro _ _ ⟨a, a4, s4, rfl, ha, q4, q4', rfl⟩
        simp -dsimp -implicitDefEqProofs (disch := omega) [go_sem, -List.getD_eq_getElem?_getD, ite_yes, ht]
        refine AAt.of (SubH.nil) ?_
        refine AAny.one1 3 8 ?_
        simp -dsimp -implicitDefEqProofs (disch := omega) [go_sem, -List.getD_eq_getElem?_getD, ite_yes, ht]
        refine AAt.of (SubH.nil) ?_
        refine AAny.takes (fuel := 0) (by kernel_rfl) (by kernel_rfl) [9, 10, 11] (by kernel_rfl) (by kernel_rfl) ?_
        simp -dsimp -implicitDefEqProofs (disch := omega) [go_sem, -List.getD_eq_getElem?_getD, ite_yes, ht]
        refine AAny.done (by kernel_rfl) ?_
        simp -dsimp -implicitDefEqProofs (disch := omega) [go_sem, -List.getD_eq_getElem?_getD, ite_yes, ht]
        exact isO_end 2 4 5 _ _ _ rfl rfl rfl rfl rfl rfl rfl hN9 hp hl ha
      · simp -dsimp -implicitDefEqProofs (disch := omega) [go_sem, -List.getD_eq_getElem?_getD, ite_yes, ht]
        refine AAt.of (SubH.nil) ?_
        refine AAny.one1 5 4 ?_
        simp -dsimp -implicitDefEqProofs (disch := omega) [go_sem, -List.getD_eq_getElem?_getD, ite_yes, ht]
        refine ACall.via (nodeOf_R (h.curJ 1 rfl (by omega)) (by omega) N (by omega) _ _ _ (by simp)) ?_
        rintro _ _ ⟨src, a3, s3, rfl, q3, q3', rfl⟩
        simp -dsimp -implicitDefEqProofs (disch := omega) [go_sem, -List.getD_eq_getElem?_getD, ite_yes, ht]
        refine AAt.of (SubH.nil) ?_
        refine AAny.one1 4 7 ?_
        simp -dsimp -implicitDefEqProofs (disch := omega) [go_sem, -List.getD_eq_getElem?_getD, ite_yes, ht]
        refine ACall.via (customers_R (h.curJ 1 rfl (by omega)) (by omega) N (by omega) _ _ _ (by simp)) ?_
        rintro _ _ ⟨a, a4, s4, rfl, ha, q4, q4', rfl⟩
        simp -dsimp -implicitDefEqProofs (disch := omega) [go_sem, -List.getD_eq_getElem?_getD, ite_yes, ht]
        refine AAt.of (SubH.nil) ?_
        refine AAny.one1 3 8 ?_
        simp -dsimp -implicitDefEqProofs (disch := omega) [go_sem, -List.getD_eq_getElem?_getD, ite_yes, ht]
        refine AAt.of (SubH.nil) ?_
        refine AAny.takes (fuel := 0) (by kernel_rfl) (by kernel_rfl) [9, 10, 11] (by kernel_rfl) (by kernel_rfl) ?_
        simp -dsimp -implicitDefEqProofs (disch := omega) [go_sem, -List.getD_eq_getElem?_getD, ite_yes, ht]
        refine AAny.done (by kernel_rfl) ?_
        simp -dsimp -implicitDefEqProofs (disch := omega) [go_sem, -List.getD_eq_getElem?_getD, ite_yes, ht]
        exact isO_end 2 4 5 _ _ _ rfl rfl rfl rfl rfl rfl rfl hN9 hp hl ha
    · simp -dsimp -implicitDefEqProofs (disch := omega) [go_sem, -List.getD_eq_getElem?_getD, ite_yes, ht]
      refine ACall.via (nodeOf_R (h.curJ 1 rfl (by omega)) (by omega) N (by omega) _ _ _ (by simp)) ?_
      rintro _ _ ⟨src, a3, s3, rfl, q3, q3', rfl⟩
      simp -dsimp -implicitDefEqProofs (disch := omega) [go_sem, -List.getD_eq_getElem?_getD, ite_yes, ht]
      refine AAt.of (SubH.nil) ?_
      refine AAny.two 6 0 6 (by kernel_rfl) (by kernel_rfl) (by kernel_rfl) ?_ ?_
      · simp -dsimp -implicitDefEqProofs (disch := omega) [go_sem, -List.getD_eq_getElem?_getD, ite_yes, ht]
        refine AAt.of (SubH.nil) ?_
        refine AAny.one1 5 6 ?_
        simp -dsimp -implicitDefEqProofs (disch := omega) [go_sem, -List.getD_eq_getElem?_getD, ite_yes, ht]
        refine AAt.of (SubH.nil) ?_
        refine AAny.one1 4 7 ?_
        simp -dsimp -implicitDefEqProofs (disch := omega) [go_sem, -List.getD_eq_getElem?_getD, ite_yes, ht]
        refine ACall.via (customers_R (h.curJ 1 rfl (by omega)) (by omega) N (by omega) _ _ _ (by simp)) ?_
        rintro _ _ ⟨a, a4, s4, rfl, ha, q4, q4', rfl⟩
        simp -dsimp -implicitDefEqProofs (disch := omega) [go_sem, -List.getD_eq_getElem?_getD, ite_yes, ht]
        refine AAt.of (SubH.nil) ?_
        refine AAny.one1 3 8 ?_
        simp -dsimp -implicitDefEqProofs (disch := omega) [go_sem, -List.getD_eq_getElem?_getD, ite_yes, ht]
        refine AAt.of (SubH.nil) ?_
        refine AAny.takes (fuel := 0) (by kernel_rfl) (by kernel_rfl) [9, 10, 11] (by kernel_rfl) (by kernel_rfl) ?_
        simp -dsimp -implicitDefEqProofs (disch := omega) [go_sem, -List.getD_eq_getElem?_getD, ite_yes, ht]
        refine AAny.done (by kernel_rfl) ?_
        simp -dsimp -implicitDefEqProofs (disch := omega) [go_sem, -List.getD_eq_getElem?_getD, ite_yes, ht]
        exact isO_end 2 4 5 _ _ _ rfl rfl rfl rfl rfl rfl rfl hN9 hp hl ha
      · simp -dsimp -implicitDefEqProofs (disch := omega) [go_sem, -List.getD_eq_getElem?_getD, ite_yes, ht]
        refine AAt.of (SubH.nil) ?_
        refine AAny.two 5 0 7 (by kernel_rfl) (by kernel_rfl) (by kernel_rfl) ?_ ?_
        · simp -dsimp -implicitDefEqProofs (disch := omega) [go_sem, -List.getD_eq_getElem?_getD, ite_yes, ht]
          refine AAt.of (SubH.nil) ?_
          refine AAny.one1 4 7 ?_
          simp -dsimp -implicitDefEqProofs (disch := omega) [go_sem, -List.getD_eq_getElem?_getD, ite_yes, ht]
          refine ACall.via (customers_R (h.curJ 1 rfl (by omega)) (by omega) N (by omega) _ _ _ (by simp)) ?_
          rintro _ _ ⟨a, a4, s4, rfl, ha, q4, q4', rfl⟩
          simp -dsimp -implicitDefEqProofs (disch := omega) [go_sem, -List.getD_eq_getElem?_getD, ite_yes, ht]
          refine AAt.of (SubH.nil) ?_
          refine AAny.one1 3 8 ?_
          simp -dsimp -implicitDefEqProofs (disch := omega) [go_sem, -List.getD_eq_getElem?_getD, ite_yes, ht]
          refine AAt.of (SubH.nil) ?_
          refine AAny.takes (fuel := 0) (by kernel_rfl) (by kernel_rfl) [9, 10, 11] (by kernel_rfl) (by kernel_rfl) ?_
          simp -dsimp -implicitDefEqProofs (disch := omega) [go_sem, -List.getD_eq_getElem?_getD, ite_yes, ht]
          refine AAny.done (by kernel_rfl) ?_
          simp -dsimp -implicitDefEqProofs (disch := omega) [go_sem, -List.getD_eq_getElem?_getD, ite_yes, ht]
          exact isO_end 2 4 5 _ _ _ rfl rfl rfl rfl rfl rfl rfl hN9 hp hl ha
        · simp -dsimp -implicitDefEqProofs (disch := omega) [go_sem, -List.getD_eq_getElem?_getD, ite_yes, ht]
          refine ACall.via (customers_R (h.curJ 1 rfl (by omega)) (by omega) N (by omega) _ _ _ (by simp)) ?_
          rintro _ _ ⟨a, a4, s4, rfl, ha, q4, q4', rfl⟩
          simp -dsimp -implicitDefEqProofs (disch := omega) [go_sem, -List.getD_eq_getElem?_getD, ite_yes, ht]
          refine AAt.of (SubH.nil) ?_
          refine AAny.one1 4 0 ?_
          simp -dsimp -implicitDefEqProofs (disch := omega) [go_sem, -List.getD_eq_getElem?_getD, ite_yes, ht]
          refine AAt.of (SubH.nil) ?_
          refine AAny.one1 3 8 ?_
          simp -dsimp -implicitDefEqProofs (disch := omega) [go_sem, -List.getD_eq_getElem?_getD, ite_yes, ht]
          refine AAt.of (SubH.nil) ?_
          refine AAny.takes (fuel := 0) (by kernel_rfl) (by kernel_rfl) [9, 10, 11] (by kernel_rfl) (by kernel_rfl) ?_
          simp -dsimp -implicitDefEqProofs (disch := omega) [go_sem, -List.getD_eq_getElem?_getD, ite_yes, ht]
          refine AAny.done (by kernel_rfl) ?_
          simp -dsimp -implicitDefEqProofs (disch := omega) [go_sem, -List.getD_eq_getElem?_getD, ite_yes, ht]
          exact isO_end 2 4 5 _ _ _ rfl rfl rfl rfl rfl rfl rfl hN9 hp hl ha
    · simp -dsimp -implicitDefEqProofs (disch := omega) [go_sem, -List.getD_eq_getElem?_getD, ite_yes, ht]
      refine AAt.of (SubH.nil) ?_
      refine AAny.two 6 0 4 (by kernel_rfl) (by kernel_rfl) (by kernel_rfl) ?_ ?_
      · simp -dsimp -implicitDefEqProofs (disch := omega) [go_sem, -List.getD_eq_getElem?_getD, ite_yes, ht]
        refine AAt.of (SubH.nil) ?_
        refine AAny.one1 5 4 ?_
        simp -dsimp -implicitDefEqProofs (disch := omega) [go_sem, -List.getD_eq_getElem?_getD, ite_yes, ht]
        refine ACall.via (nodeOf_R (h.curJ 1 rfl (by omega)) (by omega) N (by omega) _ _ _ (by simp)) ?_
        rintro _ _ ⟨src, a3, s3, rfl, q3, q3', rfl⟩
        simp -dsimp -implicitDefEqProofs (disch := omega) [go_sem, -List.getD_eq_getElem?_getD, ite_yes, ht]
        refine AAt.of (SubH.nil) ?_
        refine AAny.one1 4 7 ?_
        simp -dsimp -implicitDefEqProofs (disch := omega) [go_sem, -List.getD_eq_getElem?_getD, ite_yes, ht]
        refine ACall.via (customers_R (h.curJ 1 rfl (by omega)) (by omega) N (by omega) _ _ _ (by simp)) ?_
        rintro _ _ ⟨a, a4, s4, rfl, ha, q4, q4', rfl⟩
        simp -dsimp -implicitDefEqProofs (disch := omega) [go_sem, -List.getD_eq_getElem?_getD, ite_yes, ht]
        refine AAt.of (SubH.nil) ?_
        refine AAny.one1 3 8 ?_
        simp -dsimp -implicitDefEqProofs (disch := omega) [go_sem, -List.getD_eq_getElem?_getD, ite_yes, ht]
        refine AAt.of (SubH.nil) ?_
        refine AAny.takes (fuel := 0) (by kernel_rfl) (by kernel_rfl) [9, 10, 11] (by kernel_rfl) (by kernel_rfl) ?_
        simp -dsimp -implicitDefEqProofs (disch := omega) [go_sem, -List.getD_eq_getElem?_getD, ite_yes, ht]
        refine AAny.done (by kernel_rfl) ?_
        simp -dsimp -implicitDefEqProofs (disch := omega) [go_sem, -List.getD_eq_getElem?_getD, ite_yes, ht]
        exact isO_end 2 4 5 _ _ _ rfl rfl rfl rfl rfl rfl rfl hN9 hp hl ha
      · simp -dsimp -implicitDefEqProofs (disch := omega) [go_sem, -List.getD_eq_getElem?_getD, ite_yes, ht]
        refine ACall.via (nodeOf_R (h.curJ 1 rfl (by omega)) (by omega) N (by omega) _ _ _ (by simp)) ?_
        rintro _ _ ⟨src, a3, s3, rfl, q3, q3', rfl⟩
        simp -dsimp -implicitDefEqProofs (disch := omega) [go_sem, -List.getD_eq_getElem?_getD, ite_yes, ht]
        refine AAt.of (SubH.nil) ?_
        refine AAny.two 5 0 7 (by kernel_rfl) (by kernel_rfl) (by kernel_rfl) ?_ ?_
        · simp -dsimp -implicitDefEqProofs (disch := omega) [go_sem, -List.getD_eq_getElem?_getD, ite_yes, ht]
          refine AAt.of (SubH.nil) ?_
          refine AAny.one1 4 7 ?_
          simp -dsimp -implicitDefEqProofs (disch := omega) [go_sem, -List.getD_eq_getElem?_getD, ite_yes, ht]
          refine ACall.via (customers_R (h.curJ 1 rfl (by omega)) (by omega) N (by omega) _ _ _ (by simp)) ?_
          rintro _ _ ⟨a, a4, s4, rfl, ha, q4, q4', rfl⟩
          simp -dsimp -implicitDefEqProofs (disch := omega) [go_sem, -List.getD_eq_getElem?_getD, ite_yes, ht]
          refine AAt.of (SubH.nil) ?_
          refine AAny.one1 3 8 ?_
          simp -dsimp -implicitDefEqProofs (disch := omega) [go_sem, -List.getD_eq_getElem?_getD, ite_yes, ht]
          refine AAt.of (SubH.nil) ?_
          refine AAny.takes (fuel := 0) (by kernel_rfl) (by kernel_rfl) [9, 10, 11] (by kernel_rfl) (by kernel_rfl) ?_
          simp -dsimp -implicitDefEqProofs (disch := omega) [go_sem, -List.getD_eq_getElem?_getD, ite_yes, ht]
          refine AAny.done (by kernel_rfl) ?_
          simp -dsimp -implicitDefEqProofs (disch := omega) [go_sem, -List.getD_eq_getElem?_getD, ite_yes, ht]
          exact isO_end 2 4 5 _ _ _ rfl rfl rfl rfl rfl rfl rfl hN9 hp hl ha
        · simp -dsimp -implicitDefEqProofs (disch := omega) [go_sem, -List.getD_eq_getElem?_getD, ite_yes, ht]
          refine ACall.via (customers_R (h.curJ 1 rfl (by omega)) (by omega) N (by omega) _ _ _ (by simp)) ?_
          rintro _ _ ⟨a, a4, s4, rfl, ha, q4, q4', rfl⟩
          simp -dsimp -implicitDefEqProofs (disch := omega) [go_sem, -List.getD_eq_getElem?_getD, ite_yes, ht]
          refine AAt.of (SubH.nil) ?_
          refine AAny.one1 4 0 ?_
          simp -dsimp -implicitDefEqProofs (disch := omega) [go_sem, -List.getD_eq_getElem?_getD, ite_yes, ht]
          refine AAt.of (SubH.nil) ?_
          refine AAny.one1 3 8 ?_
          simp -dsimp -implicitDefEqProofs (disch := omega) [go_sem, -List.getD_eq_getElem?_getD, ite_yes, ht]
          refine AAt.of (SubH.nil) ?_
          refine AAny.takes (fuel := 0) (by kernel_rfl) (by kernel_rfl) [9, 10, 11] (by kernel_rfl) (by kernel_rfl) ?_
          simp -dsimp -implicitDefEqProofs (disch := omega) [go_sem, -List.getD_eq_getElem?_getD, ite_yes, ht]
          refine AAny.done (by kernel_rfl) ?_
          simp -dsimp -implicitDefEqProofs (disch := omega) [go_sem, -List.getD_eq_getElem?_getD, ite_yes, ht]
          exact isO_end 2 4 5 _ _ _ rfl rfl rfl rfl rfl rfl rfl hN9 hp hl ha
  · simp -dsimp -implicitDefEqProofs (disch := omega) [go_sem, -List.getD_eq_getElem?_getD, ite_yes, ht]
    refine AAt.of (SubH.nil) ?_
    refine AAny.two 7 0 3 (by kernel_rfl) (by kernel_rfl) (by kernel_rfl) ?_ ?_
    · simp -dsimp -implicitDefEqProofs (disch := omega) [go_sem, -List.getD_eq_getElem?_getD, ite_yes, ht]
      refine AAt.of (SubH.nil) ?_
      refine AAny.one1 6 3 ?_
      simp -dsimp -implicitDefEqProofs (disch := omega) [go_sem, -List.getD_eq_getElem?_getD, ite_yes, ht]
      refine AAt.of (SubH.nil) ?_
      refine AAny.one1 5 4 ?_
      simp -dsimp -implicitDefEqProofs (disch := omega) [go_sem, -List.getD_eq_getElem?_getD, ite_yes, ht]
      refine ACall.via (nodeOf_R (h.curJ 1 rfl (by omega)) (by omega) N (by omega) _ _ _ (by simp)) ?_
      rintro _ _ ⟨src, a3, s3, rfl, q3, q3', rfl⟩
      simp -dsimp -implicitDefEqProofs (disch := omega) [go_sem, -List.getD_eq_getElem?_getD, ite_yes, ht]
      refine AAt.of (SubH.nil) ?_
      refine AAny.one1 4 7 ?_
      simp -dsimp -implicitDefEqProofs (disch := omega) [go_sem, -List.getD_eq_getElem?_getD, ite_yes, ht]
      refine ACall.via (customers_R (h.curJ 1 rfl (by omega)) (by omega) N (by omega) _ _ _ (by simp)) ?_
      rintro _ _ ⟨a, a4, s4, rfl, ha, q4, q4', rfl⟩
      simp -dsimp -implicitDefEqProofs (disch := omega) [go_sem, -List.getD_eq_getElem?_getD, ite_yes, ht]
      refine AAt.of (SubH.nil) ?_
      refine AAny.one1 3 8 ?_
      simp -dsimp -implicitDefEqProofs (disch := omega) [go_sem, -List.getD_eq_getElem?_getD, ite_yes, ht]
      refine AAt.of (SubH.nil) ?_
      refine AAny.takes (fuel := 0) (by kernel_rfl) (by kernel_rfl) [9, 10, 11] (by kernel_rfl) (by kernel_rfl) ?_
      simp -dsimp -implicitDefEqProofs (disch := omega) [go_sem, -List.getD_eq_getElem?_getD, ite_yes, ht]
      refine AAny.done (by kernel_rfl) ?_
      simp -dsimp -implicitDefEqProofs (disch := omega) [go_sem, -List.getD_eq_getElem?_getD, ite_yes, ht]
      exact isO_end 2 4 5 _ _ _ rfl rfl rfl rfl rfl rfl rfl hN9 hp hl ha
    · simp -dsimp -implicitDefEqProofs (disch := omega) [go_sem, -List.getD_eq_getElem?_getD, ite_yes, ht]
      refine AAt.of (SubH.nil) ?_
      refine AAny.two 6 0 4 (by kernel_rfl) (by kernel_rfl) (by kernel_rfl) ?_ ?_
      · simp -dsimp -implicitDefEqProofs (disch := omega) [go_sem, -List.getD_eq_getElem?_getD, ite_yes, ht]
        refine AAt.of (SubH.nil) ?_
        refine AAny.one1 5 4 ?_
        simp -dsimp -implicitDefEqProofs (disch := omega) [go_sem, -List.getD_eq_getElem?_getD, ite_yes, ht]
        refine ACall.via (nodeOf_R (h.curJ 1 rfl (by omega)) (by omega) N (by omega) _ _ _ (by simp)) ?_
        rintro _ _ ⟨src, a3, s3, rfl, q3, q3', rfl⟩
        simp -dsimp -implicitDefEqProofs (disch := omega) [go_sem, -List.getD_eq_getElem?_getD, ite_yes, ht]
        refine AAt.of (SubH.nil) ?_
        refine AAny.one1 4 7 ?_
        simp -dsimp -implicitDefEqProofs (disch := omega) [go_sem, -List.getD_eq_getElem?_getD, ite_yes, ht]
        refine ACall.via (customers_R (h.curJ 1 rfl (by omega)) (by omega) N (by omega) _ _ _ (by simp)) ?_
        rintro _ _ ⟨a, a4, s4, rfl, ha, q4, q4', rfl⟩
        simp -dsimp -implicitDefEqProofs (disch := omega) [go_sem, -List.getD_eq_getElem?_getD, ite_yes, ht]
        refine AAt.of (SubH.nil) ?_
        refine AAny.one1 3 8 ?_
        simp -dsimp -implicitDefEqProofs (disch := omega) [go_sem, -List.getD_eq_getElem?_getD, ite_yes, ht]
        refine AAt.of (SubH.nil) ?_
        refine AAny.takes (fuel := 0) (by kernel_rfl) (by kernel_rfl) [9, 10, 11] (by kernel_rfl) (by kernel_rfl) ?_
        simp -dsimp -implicitDefEqProofs (disch := omega) [go_sem, -List.getD_eq_getElem?_getD, ite_yes, ht]
        refine AAny.done (by kernel_rfl) ?_
        simp -dsimp -implicitDefEqProofs (disch := omega) [go_sem, -List.getD_eq_getElem?_getD, ite_yes, ht]
        exact isO_end 2 4 5 _ _ _ rfl rfl rfl rfl rfl rfl rfl hN9 hp hl ha
      · simp -dsimp -implicitDefEqProofs (disch := omega) [go_sem, -List.getD_eq_getElem?_getD, ite_yes, ht]
        refine ACall.via (nodeOf_R (h.curJ 1 rfl (by omega)) (by omega) N (by omega) _ _ _ (by simp)) ?_
        rintro _ _ ⟨src, a3, s3, rfl, q3, q3', rfl⟩
        simp -dsimp -implicitDefEqProofs (disch := omega) [go_sem, -List.getD_eq_getElem?_getD, ite_yes, ht]
        refine AAt.of (SubH.nil) ?_
        refine AAny.two 5 0 7 (by kernel_rfl) (by kernel_rfl) (by kernel_rfl) ?_ ?_
        · simp -dsimp -implicitDefEqProofs (disch := omega) [go_sem, -List.getD_eq_getElem?_getD, ite_yes, ht]
          refine AAt.of (SubH.nil) ?_
          refine AAny.one1 4 7 ?_
          simp -dsimp -implicitDefEqProofs (disch := omega) [go_sem, -List.getD_eq_getElem?_getD, ite_yes, ht]
          refine ACall.via (customers_R (h.curJ 1 rfl (by omega)) (by omega) N (by omega) _ _ _ (by simp)) ?_
          rintro _ _ ⟨a, a4, s4, rfl, ha, q4, q4', rfl⟩
          simp -dsimp -implicitDefEqProofs (disch := omega) [go_sem, -List.getD_eq_getElem?_getD, ite_yes, ht]
          refine AAt.of (SubH.nil) ?_
          refine AAny.one1 3 8 ?_
          simp -dsimp -implicitDefEqProofs (disch := omega) [go_sem, -List.getD_eq_getElem?_getD, ite_yes, ht]
          refine AAt.of (SubH.nil) ?_
          refine AAny.takes (fuel := 0) (by kernel_rfl) (by kernel_rfl) [9, 10, 11] (by kernel_rfl) (by kernel_rfl) ?_
          simp -dsimp -implicitDefEqProofs (disch := omega) [go_sem, -List.getD_eq_getElem?_getD, ite_yes, ht]
          refine AAny.done (by kernel_rfl) ?_
          simp -dsimp -implicitDefEqProofs (disch := omega) [go_sem, -List.getD_eq_getElem?_getD, ite_yes, ht]
          exact isO_end 2 4 5 _ _ _ rfl rfl rfl rfl rfl rfl rfl hN9 hp hl ha
        · simp -dsimp -implicitDefEqProofs (disch := omega) [go_sem, -List.getD_eq_getElem?_getD, ite_yes, ht]
          refine ACall.via (customers_R (h.curJ 1 rfl (by omega)) (by omega) N (by omega) _ _ _ (by simp)) ?_
          rintro _ _ ⟨a, a4, s4, rfl, ha, q4, q4', rfl⟩
          simp -dsimp -implicitDefEqProofs (disch := omega) [go_sem, -List.getD_eq_getElem?_getD, ite_yes, ht]
          refine AAt.of (SubH.nil) ?_
          refine AAny.one1 4 0 ?_
          simp -dsimp -implicitDefEqProofs (disch := omega) [go_sem, -List.getD_eq_getElem?_getD, ite_yes, ht]
          refine AAt.of (SubH.nil) ?_
          refine AAny.one1 3 8 ?_
          simp -dsimp -implicitDefEqProofs (disch := omega) [go_sem, -List.getD_eq_getElem?_getD, ite_yes, ht]
          refine AAt.of (SubH.nil) ?_
          refine AAny.takes (fuel := 0) (by kernel_rfl) (by kernel_rfl) [9, 10, 11] (by kernel_rfl) (by kernel_rfl) ?_
          simp -dsimp -implicitDefEqProofs (disch := omega) [go_sem, -List.getD_eq_getElem?_getD, ite_yes, ht]
          refine AAny.done (by kernel_rfl) ?_
          simp -dsimp -implicitDefEqProofs (disch := omega) [go_sem, -List.getD_eq_getElem?_getD, ite_yes, ht]
          exact isO_end 2 4 5 _ _ _ rfl rfl rfl rfl rfl rfl rfl hN9 hp hl ha
end Go.Proofs.YtncblopbcnkinaaGreat
