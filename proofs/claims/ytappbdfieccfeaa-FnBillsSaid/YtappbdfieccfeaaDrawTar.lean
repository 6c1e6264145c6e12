/- Tariffs that are drawn. -/
import Derived.Test.YtappbdfieccfeaaDrawBy
import Derived.Test.YtappbdfieccfeaaRecBk
import Derived.Test.YtappbdfieccfeaaDrawBills
namespace Go.Proofs.Ytappbdfieccfeaa
open Go.Am
set_option linter.unusedVariables false
set_option linter.unusedSimpArgs false
set_option maxRecDepth 100000
set_option maxHeartbeats 1000000

theorem wl_tcell {m j u : Nat} {js : List (Option Nat)} {N : Int} {len c i : Nat} (hu : u < j) (hs : sg m js (m + u) = some (m + i)) : WL (sg m js) (m + j) [.int .i64 N, .slice (some ⟨m + u, 0, none⟩) len c] [.int .i64 N, .slice (some ⟨m + i, 0, none⟩) len c] :=
  .inr ⟨rfl, ⟨show m + u < m + j by omega, .inl ⟨m + i, c, hs, rfl⟩⟩, trivial⟩
theorem wl_tcell0 {m j u : Nat} {js : List (Option Nat)} {N : Int} {c : Nat} (hu : u < j) (hs : sg m js (m + u) = none) : WL (sg m js) (m + j) [.int .i64 N, .slice (some ⟨m + u, 0, none⟩) 0 c] [.int .i64 N, .slice none 0 0] :=
  .inr ⟨rfl, ⟨show m + u < m + j by omega, .inr ⟨hs, rfl, rfl, rfl⟩⟩, trivial⟩
/-- a tariff whose blocks may begin within their block -/
def PTar (H : Heap) (t tc n cc : Nat) (at_ : Int) (v : Value) (H' : Heap) : Prop :=
  ∃ (N : Int) (xs l : List Bk) (off cp : Nat) (a s : Int), v = .agg #[.int .i64 N, .slice (some ⟨H.length, off, none⟩) l.length cp] ∧ List.drop off (xs.flatMap bkE) = l.flatMap bkE ∧ l.length ≤ 20 ∧ at_ ≤ a ∧ a ≤ at_ + 100 ∧ H' = H.set t (curB tc n cc a s) ++ [some ⟨xs.flatMap bkE, true, 87, 2⟩]
structure TrI where
  k : Nat
  l : List Bk
  d : Int
  a : Int
  s : Int
def TarR (H : Heap) (t tc n cc : Nat) (at_ N : Int) (fr1 : Fr) (H1 : Heap) : Prop :=
  ∃ (L : List Bk) (a' s' : Int), fr1 = [(0, .pointer (some ⟨t, 0, none⟩)), (2, .pointer (some ⟨H.length, 0, none⟩)), (3, .pointer (some ⟨H.length + 1, 0, none⟩))] ∧ 0 < L.length ∧ L.length ≤ 6 ∧ at_ ≤ a' ∧ a' ≤ at_ + 40 ∧
    H1 = H.set t (curB tc n cc a' s') ++ [some ⟨[.int .i64 0, .slice none 0 0], true, 39, 1⟩, some ⟨[.int .i64 N, .slice (some ⟨H.length + 2, 0, none⟩) L.length L.length], true, 39, 1⟩, some ⟨L.flatMap bkE, true, 87, 2⟩]
theorem tariff_R {H : Heap} {t tc n cc : Nat} {at_ seed : Int} (h : Cur H t tc n cc at_ seed) (hA : at_ ≤ 10000000000000000) :
    AFunR Try.prog 58 [.pointer (some ⟨t, 0, none⟩)] H (PTar H t tc n cc at_) := by
  refine AFunR.of_body Try.func58 (by kernel_rfl) rfl (by kernel_rfl) (by simp [Try.ntmps58]) ?_
  have ht := h.lt
  have p0 := h.pos
  have si := fun (x : Option Blk) (L : Heap) (y : Option Blk) => set_into (H := H) (L := L) (x := x) ht (y := y)
  have s0 := fun (L : Heap) (y : Option Blk) => set_into0 (H := H) (L := L) ht (y := y)
  simp -dsimp -implicitDefEqProofs (disch := omega) [go_sem, -List.getD_eq_getElem?_getD, ite_yes]
  refine ACall.via (among_R (h.app _) (by omega) [0, 0, 500, 100000] (by simp) (by simp) _ _ (by omega) (Sl.nth 1 rfl rfl)) ?_
  rintro _ _ ⟨N, rfl, xm, a3, s3, q3, q3', rfl⟩
  simp -dsimp -implicitDefEqProofs (disch := omega) [go_sem, -List.getD_eq_getElem?_getD, ite_yes, s0]
  refine ACall.via (pick_R ((h.step (by omega)).app _) (by omega) 5 (by omega)) ?_
  rintro _ _ ⟨r, rfl, r0, r1, a5, s5, q5, q5', rfl⟩
  obtain ⟨r, rfl⟩ : ∃ k : Nat, r = (k : Int) := ⟨r.toNat, by omega⟩
  simp -dsimp -implicitDefEqProofs (disch := omega) [go_sem, -List.getD_eq_getElem?_getD, ite_yes, si]
  refine ALoop.intro (ι := TrI) (fun i => i.l.length + i.k ≤ 5 ∧ at_ ≤ i.a ∧ i.a + 4 * i.k ≤ at_ + 30 ∧ 0 ≤ i.d ∧ i.d + 20000 * i.k ≤ 200000) (fun i => [(0, .pointer (some ⟨t, 0, none⟩)), (2, .pointer (some ⟨H.length, 0, none⟩)), (3, .pointer (some ⟨H.length + 1, 0, none⟩)), (4, .int .i64 i.d), (5, .int .i64 i.k)])
    (fun i => H.set t (curB tc n cc i.a i.s) ++ [some ⟨[.int .i64 0, .slice none 0 0], true, 39, 1⟩, some ⟨[.int .i64 N, .slice (some ⟨H.length + 2, 0, none⟩) i.l.length i.l.length], true, 39, 1⟩, some ⟨i.l.flatMap bkE, true, 87, 2⟩]) (fun i => i.k) ⟨r, [], 0, a5, s5⟩ ⟨by simp only [List.length_nil]; omega, by simp only; omega, by simp only; omega, by simp only; omega, by simp only; omega⟩ ?_ ?_
  · refine weakS_sets [some 0, some 2, none] rfl ht (h.wms _ _ _ _) ?_ (by simp -dsimp -implicitDefEqProofs (disch := omega) [go_sem, -List.getD_eq_getElem?_getD, ite_yes, ht])
    simp -dsimp -implicitDefEqProofs (disch := omega) [go_sem, -List.getD_eq_getElem?_getD, ite_yes]
    exact ⟨.inl ⟨rfl, rfl⟩, wl_tcell0 (by omega) (by simp [sg])⟩
  rintro ⟨k, l, d, a, s⟩ ⟨i1, i2, i3, i4, i5⟩
  simp only at i1 i2 i3 i4 i5
  have lf := bkE_length l
  cases k with
  | succ m =>
    have e6 : ((m + 1 : Nat) : Int) - 1 = (m : Int) := by omega
    have hm : (0 : Int) < ((m + 1 : Nat) : Int) := by omega
    simp -dsimp -implicitDefEqProofs (disch := omega) [go_sem, -List.getD_eq_getElem?_getD, ite_yes, hm, lf]
    refine ACall.via (among_R ((h.step (by omega)).app _) (by omega) [1, 10, 50, 100, 20000] (by simp) (by simp) _ _ (by omega) (Sl.nthS 3 rfl rfl)) ?_
    rintro _ _ ⟨z, rfl, zm, a6, s6, q6, q6', rfl⟩
    have zr : 1 ≤ z ∧ z ≤ 20000 := by simp at zm; omega
    simp -dsimp -implicitDefEqProofs (disch := omega) [go_sem, -List.getD_eq_getElem?_getD, ite_yes, si, lf]
    refine ADraw.any [] (by kernel_rfl) (SubH.nil) ?_
    refine AAny.takes (fuel := 8) (by kernel_rfl) (by kernel_rfl) [0, 2, 3] (by kernel_rfl) (by kernel_rfl) ?_
    simp -dsimp -implicitDefEqProofs (disch := omega) [go_sem, -List.getD_eq_getElem?_getD, ite_yes, si, ht, lf]
    refine AAny.two 7 1 4 (by kernel_rfl) (by kernel_rfl) (by kernel_rfl) ?_ ?_
    · simp -dsimp -implicitDefEqProofs (disch := omega) [go_sem, -List.getD_eq_getElem?_getD, ite_yes, si, ht, lf]
      first | refine AAt.of (SubH.nil) ?_ | (refine ⟨?_, AAt.of (SubH.nil) ?_⟩; · omega)
      refine AAny.one 6 4 (by kernel_rfl) (by kernel_rfl) (by kernel_rfl) ?_
      simp -dsimp -implicitDefEqProofs (disch := omega) [go_sem, -List.getD_eq_getElem?_getD, ite_yes, si, ht, lf]
      first | refine AAt.of (SubH.nil) ?_ | (refine ⟨?_, AAt.of (SubH.nil) ?_⟩; · omega)
      refine AAny.one 5 5 (by kernel_rfl) (by kernel_rfl) (by kernel_rfl) ?_
      simp -dsimp -implicitDefEqProofs (disch := omega) [go_sem, -List.getD_eq_getElem?_getD, ite_yes, si, ht, lf]
      refine ACall.via (among_R ((h.step (by omega)).app _) (by omega) [0, 1, 5, 5, 20, 1000] (by simp) (by simp) _ _ (by omega) (Sl.nthS 4 rfl rfl)) ?_
      rintro _ _ ⟨y, rfl, ym, a7, s7, q7, q7', rfl⟩
      simp -dsimp -implicitDefEqProofs (disch := omega) [go_sem, -List.getD_eq_getElem?_getD, ite_yes, si, ht, lf]
      first | refine AAt.of (SubH.nil) ?_ | (refine ⟨?_, AAt.of (SubH.nil) ?_⟩; · omega)
      refine AAny.one 4 6 (by kernel_rfl) (by kernel_rfl) (by kernel_rfl) ?_
      simp -dsimp -implicitDefEqProofs (disch := omega) [go_sem, -List.getD_eq_getElem?_getD, ite_yes, si, ht, lf]
      first | refine AAt.of (SubH.nil) ?_ | (refine ⟨?_, AAt.of (SubH.nil) ?_⟩; · omega)
      refine AAny.one 3 7 (by kernel_rfl) (by kernel_rfl) (by kernel_rfl) ?_
      simp -dsimp -implicitDefEqProofs (disch := omega) [go_sem, -List.getD_eq_getElem?_getD, ite_yes, si, ht, lf]
      first | refine AAt.of (SubH.nil) ?_ | (refine ⟨?_, AAt.of (SubH.nil) ?_⟩; · omega)
      refine AAny.one 2 8 (by kernel_rfl) (by kernel_rfl) (by kernel_rfl) ?_
      simp -dsimp -implicitDefEqProofs (disch := omega) [go_sem, -List.getD_eq_getElem?_getD, ite_yes, si, ht, lf]
      first | refine AAt.of (SubH.nil) ?_ | (refine ⟨?_, AAt.of (SubH.nil) ?_⟩; · omega)
      refine AAny.takes (fuel := 1) (by kernel_rfl) (by kernel_rfl) [9] (by kernel_rfl) (by kernel_rfl) ?_
      simp -dsimp -implicitDefEqProofs (disch := omega) [go_sem, -List.getD_eq_getElem?_getD, ite_yes, si, ht, lf]
      refine AAny.one 0 10 (by kernel_rfl) (by kernel_rfl) (by kernel_rfl) ?_
      simp -dsimp -implicitDefEqProofs (disch := omega) [go_sem, -List.getD_eq_getElem?_getD, ite_yes, si, ht, lf]
      first | refine AAt.of (SubH.nil) ?_ | (refine ⟨?_, AAt.of (SubH.nil) ?_⟩; · omega)
      refine AAny.done (by kernel_rfl) ?_
      simp -dsimp -implicitDefEqProofs (disch := omega) [go_sem, -List.getD_eq_getElem?_getD, ite_yes, si, ht, lf]
      refine LoopEnd.of ⟨m, l ++ [(d + z, y)], d + z, a7, s7⟩ ⟨by simp only [List.length_append, List.length_singleton]; omega, by simp only; omega, by simp only; omega, by simp only; omega, by simp only; omega⟩ (by simp only; omega) (weakS_sets [some 0, some 1, some 6] rfl ht (h.wms _ _ _ _) ?_ (by simp -dsimp -implicitDefEqProofs (disch := omega) [go_sem, -List.getD_eq_getElem?_getD, ite_yes, ht]))
      simp -dsimp -implicitDefEqProofs (disch := omega) [go_sem, -List.getD_eq_getElem?_getD, ite_yes, ht]
      exact ⟨.inl ⟨rfl, rfl⟩, wl_tcell (by omega) (by simp [sg]), .inl ⟨by simp [bkE], by simp [bkE, flat]⟩⟩
    · simp -dsimp -implicitDefEqProofs (disch := omega) [go_sem, -List.getD_eq_getElem?_getD, ite_yes, si, ht, lf]
      first | refine AAt.of (SubH.nil) ?_ | (refine ⟨?_, AAt.of (SubH.nil) ?_⟩; · omega)
      refine AAny.two 6 1 5 (by kernel_rfl) (by kernel_rfl) (by kernel_rfl) ?_ ?_
      · simp -dsimp -implicitDefEqProofs (disch := omega) [go_sem, -List.getD_eq_getElem?_getD, ite_yes, si, ht, lf]
        first | refine AAt.of (SubH.nil) ?_ | (refine ⟨?_, AAt.of (SubH.nil) ?_⟩; · omega)
        refine AAny.one 5 5 (by kernel_rfl) (by kernel_rfl) (by kernel_rfl) ?_
        simp -dsimp -implicitDefEqProofs (disch := omega) [go_sem, -List.getD_eq_getElem?_getD, ite_yes, si, ht, lf]
        refine ACall.via (among_R ((h.step (by omega)).app _) (by omega) [0, 1, 5, 5, 20, 1000] (by simp) (by simp) _ _ (by omega) (Sl.nthS 4 rfl rfl)) ?_
        rintro _ _ ⟨y, rfl, ym, a7, s7, q7, q7', rfl⟩
        simp -dsimp -implicitDefEqProofs (disch := omega) [go_sem, -List.getD_eq_getElem?_getD, ite_yes, si, ht, lf]
        first | refine AAt.of (SubH.nil) ?_ | (refine ⟨?_, AAt.of (SubH.nil) ?_⟩; · omega)
        refine AAny.one 4 6 (by kernel_rfl) (by kernel_rfl) (by kernel_rfl) ?_
        simp -dsimp -implicitDefEqProofs (disch := omega) [go_sem, -List.getD_eq_getElem?_getD, ite_yes, si, ht, lf]
        first | refine AAt.of (SubH.nil) ?_ | (refine ⟨?_, AAt.of (SubH.nil) ?_⟩; · omega)
        refine AAny.one 3 7 (by kernel_rfl) (by kernel_rfl) (by kernel_rfl) ?_
        simp -dsimp -implicitDefEqProofs (disch := omega) [go_sem, -List.getD_eq_getElem?_getD, ite_yes, si, ht, lf]
        first | refine AAt.of (SubH.nil) ?_ | (refine ⟨?_, AAt.of (SubH.nil) ?_⟩; · omega)
        refine AAny.one 2 8 (by kernel_rfl) (by kernel_rfl) (by kernel_rfl) ?_
        simp -dsimp -implicitDefEqProofs (disch := omega) [go_sem, -List.getD_eq_getElem?_getD, ite_yes, si, ht, lf]
        first | refine AAt.of (SubH.nil) ?_ | (refine ⟨?_, AAt.of (SubH.nil) ?_⟩; · omega)
        refine AAny.takes (fuel := 1) (by kernel_rfl) (by kernel_rfl) [9] (by kernel_rfl) (by kernel_rfl) ?_
        simp -dsimp -implicitDefEqProofs (disch := omega) [go_sem, -List.getD_eq_getElem?_getD, ite_yes, si, ht, lf]
        refine AAny.one 0 10 (by kernel_rfl) (by kernel_rfl) (by kernel_rfl) ?_
        simp -dsimp -implicitDefEqProofs (disch := omega) [go_sem, -List.getD_eq_getElem?_getD, ite_yes, si, ht, lf]
        first | refine AAt.of (SubH.nil) ?_ | (refine ⟨?_, AAt.of (SubH.nil) ?_⟩; · omega)
        refine AAny.done (by kernel_rfl) ?_
        simp -dsimp -implicitDefEqProofs (disch := omega) [go_sem, -List.getD_eq_getElem?_getD, ite_yes, si, ht, lf]
        refine LoopEnd.of ⟨m, l ++ [(d + z, y)], d + z, a7, s7⟩ ⟨by simp only [List.length_append, List.length_singleton]; omega, by simp only; omega, by simp only; omega, by simp only; omega, by simp only; omega⟩ (by simp only; omega) (weakS_sets [some 0, some 1, some 6] rfl ht (h.wms _ _ _ _) ?_ (by simp -dsimp -implicitDefEqProofs (disch := omega) [go_sem, -List.getD_eq_getElem?_getD, ite_yes, ht]))
        simp -dsimp -implicitDefEqProofs (disch := omega) [go_sem, -List.getD_eq_getElem?_getD, ite_yes, ht]
        exact ⟨.inl ⟨rfl, rfl⟩, wl_tcell (by omega) (by simp [sg]), .inl ⟨by simp [bkE], by simp [bkE, flat]⟩⟩
      · simp -dsimp -implicitDefEqProofs (disch := omega) [go_sem, -List.getD_eq_getElem?_getD, ite_yes, si, ht, lf]
        refine ACall.via (among_R ((h.step (by omega)).app _) (by omega) [0, 1, 5, 5, 20, 1000] (by simp) (by simp) _ _ (by omega) (Sl.nthS 4 rfl rfl)) ?_
        rintro _ _ ⟨y, rfl, ym, a7, s7, q7, q7', rfl⟩
        simp -dsimp -implicitDefEqProofs (disch := omega) [go_sem, -List.getD_eq_getElem?_getD, ite_yes, si, ht, lf]
        first | refine AAt.of (SubH.nil) ?_ | (refine ⟨?_, AAt.of (SubH.nil) ?_⟩; · omega)
        refine AAny.two 5 1 6 (by kernel_rfl) (by kernel_rfl) (by kernel_rfl) ?_ ?_
        · simp -dsimp -implicitDefEqProofs (disch := omega) [go_sem, -List.getD_eq_getElem?_getD, ite_yes, si, ht, lf]
          first | refine AAt.of (SubH.nil) ?_ | (refine ⟨?_, AAt.of (SubH.nil) ?_⟩; · omega)
          refine AAny.one 4 6 (by kernel_rfl) (by kernel_rfl) (by kernel_rfl) ?_
          simp -dsimp -implicitDefEqProofs (disch := omega) [go_sem, -List.getD_eq_getElem?_getD, ite_yes, si, ht, lf]
          first | refine AAt.of (SubH.nil) ?_ | (refine ⟨?_, AAt.of (SubH.nil) ?_⟩; · omega)
          refine AAny.one 3 7 (by kernel_rfl) (by kernel_rfl) (by kernel_rfl) ?_
          simp -dsimp -implicitDefEqProofs (disch := omega) [go_sem, -List.getD_eq_getElem?_getD, ite_yes, si, ht, lf]
          first | refine AAt.of (SubH.nil) ?_ | (refine ⟨?_, AAt.of (SubH.nil) ?_⟩; · omega)
          refine AAny.one 2 8 (by kernel_rfl) (by kernel_rfl) (by kernel_rfl) ?_
          simp -dsimp -implicitDefEqProofs (disch := omega) [go_sem, -List.getD_eq_getElem?_getD, ite_yes, si, ht, lf]
          first | refine AAt.of (SubH.nil) ?_ | (refine ⟨?_, AAt.of (SubH.nil) ?_⟩; · omega)
          refine AAny.takes (fuel := 1) (by kernel_rfl) (by kernel_rfl) [9] (by kernel_rfl) (by kernel_rfl) ?_
          simp -dsimp -implicitDefEqProofs (disch := omega) [go_sem, -List.getD_eq_getElem?_getD, ite_yes, si, ht, lf]
          refine AAny.one 0 10 (by kernel_rfl) (by kernel_rfl) (by kernel_rfl) ?_
          simp -dsimp -implicitDefEqProofs (disch := omega) [go_sem, -List.getD_eq_getElem?_getD, ite_yes, si, ht, lf]
          first | refine AAt.of (SubH.nil) ?_ | (refine ⟨?_, AAt.of (SubH.nil) ?_⟩; · omega)
          refine AAny.done (by kernel_rfl) ?_
          simp -dsimp -implicitDefEqProofs (disch := omega) [go_sem, -List.getD_eq_getElem?_getD, ite_yes, si, ht, lf]
          refine LoopEnd.of ⟨m, l ++ [(d + z, y)], d + z, a7, s7⟩ ⟨by simp only [List.length_append, List.length_singleton]; omega, by simp only; omega, by simp only; omega, by simp only; omega, by simp only; omega⟩ (by simp only; omega) (weakS_sets [some 0, some 1, some 6] rfl ht (h.wms _ _ _ _) ?_ (by simp -dsimp -implicitDefEqProofs (disch := omega) [go_sem, -List.getD_eq_getElem?_getD, ite_yes, ht]))
          simp -dsimp -implicitDefEqProofs (disch := omega) [go_sem, -List.getD_eq_getElem?_getD, ite_yes, ht]
          exact ⟨.inl ⟨rfl, rfl⟩, wl_tcell (by omega) (by simp [sg]), .inl ⟨by simp [bkE], by simp [bkE, flat]⟩⟩
        · simp -dsimp -implicitDefEqProofs (disch := omega) [go_sem, -List.getD_eq_getElem?_getD, ite_yes, si, ht, lf]
          first | refine AAt.of (SubH.nil) ?_ | (refine ⟨?_, AAt.of (SubH.nil) ?_⟩; · omega)
          refine AAny.two 4 1 7 (by kernel_rfl) (by kernel_rfl) (by kernel_rfl) ?_ ?_
          · simp -dsimp -implicitDefEqProofs (disch := omega) [go_sem, -List.getD_eq_getElem?_getD, ite_yes, si, ht, lf]
            first | refine AAt.of (SubH.nil) ?_ | (refine ⟨?_, AAt.of (SubH.nil) ?_⟩; · omega)
            refine AAny.one 3 7 (by kernel_rfl) (by kernel_rfl) (by kernel_rfl) ?_
            simp -dsimp -implicitDefEqProofs (disch := omega) [go_sem, -List.getD_eq_getElem?_getD, ite_yes, si, ht, lf]
            first | refine AAt.of (SubH.nil) ?_ | (refine ⟨?_, AAt.of (SubH.nil) ?_⟩; · omega)
            refine AAny.one 2 8 (by kernel_rfl) (by kernel_rfl) (by kernel_rfl) ?_
            simp -dsimp -implicitDefEqProofs (disch := omega) [go_sem, -List.getD_eq_getElem?_getD, ite_yes, si, ht, lf]
            first | refine AAt.of (SubH.nil) ?_ | (refine ⟨?_, AAt.of (SubH.nil) ?_⟩; · omega)
            refine AAny.takes (fuel := 1) (by kernel_rfl) (by kernel_rfl) [9] (by kernel_rfl) (by kernel_rfl) ?_
            simp -dsimp -implicitDefEqProofs (disch := omega) [go_sem, -List.getD_eq_getElem?_getD, ite_yes, si, ht, lf]
            refine AAny.one 0 10 (by kernel_rfl) (by kernel_rfl) (by kernel_rfl) ?_
            simp -dsimp -implicitDefEqProofs (disch := omega) [go_sem, -List.getD_eq_getElem?_getD, ite_yes, si, ht, lf]
            first | refine AAt.of (SubH.nil) ?_ | (refine ⟨?_, AAt.of (SubH.nil) ?_⟩; · omega)
            refine AAny.done (by kernel_rfl) ?_
            simp -dsimp -implicitDefEqProofs (disch := omega) [go_sem, -List.getD_eq_getElem?_getD, ite_yes, si, ht, lf]
            refine LoopEnd.of ⟨m, l ++ [(d + z, y)], d + z, a7, s7⟩ ⟨by simp only [List.length_append, List.length_singleton]; omega, by simp only; omega, by simp only; omega, by simp only; omega, by simp only; omega⟩ (by simp only; omega) (weakS_sets [some 0, some 1, some 6] rfl ht (h.wms _ _ _ _) ?_ (by simp -dsimp -implicitDefEqProofs (disch := omega) [go_sem, -List.getD_eq_getElem?_getD, ite_yes, ht]))
            simp -dsimp -implicitDefEqProofs (disch := omega) [go_sem, -List.getD_eq_getElem?_getD, ite_yes, ht]
            exact ⟨.inl ⟨rfl, rfl⟩, wl_tcell (by omega) (by simp [sg]), .inl ⟨by simp [bkE], by simp [bkE, flat]⟩⟩
          · simp -dsimp -implicitDefEqProofs (disch := omega) [go_sem, -List.getD_eq_getElem?_getD, ite_yes, si, ht, lf]
            first | refine AAt.of (SubH.nil) ?_ | (refine ⟨?_, AAt.of (SubH.nil) ?_⟩; · omega)
            refine AAny.one 3 1 (by kernel_rfl) (by kernel_rfl) (by kernel_rfl) ?_
            simp -dsimp -implicitDefEqProofs (disch := omega) [go_sem, -List.getD_eq_getElem?_getD, ite_yes, si, ht, lf]
            first | refine AAt.of (SubH.nil) ?_ | (refine ⟨?_, AAt.of (SubH.nil) ?_⟩; · omega)
            refine AAny.one 2 8 (by kernel_rfl) (by kernel_rfl) (by kernel_rfl) ?_
            simp -dsimp -implicitDefEqProofs (disch := omega) [go_sem, -List.getD_eq_getElem?_getD, ite_yes, si, ht, lf]
            first | refine AAt.of (SubH.nil) ?_ | (refine ⟨?_, AAt.of (SubH.nil) ?_⟩; · omega)
            refine AAny.takes (fuel := 1) (by kernel_rfl) (by kernel_rfl) [9] (by kernel_rfl) (by kernel_rfl) ?_
            simp -dsimp -implicitDefEqProofs (disch := omega) [go_sem, -List.getD_eq_getElem?_getD, ite_yes, si, ht, lf]
            refine AAny.one 0 10 (by kernel_rfl) (by kernel_rfl) (by kernel_rfl) ?_
            simp -dsimp -implicitDefEqProofs (disch := omega) [go_sem, -List.getD_eq_getElem?_getD, ite_yes, si, ht, lf]
            first | refine AAt.of (SubH.nil) ?_ | (refine ⟨?_, AAt.of (SubH.nil) ?_⟩; · omega)
            refine AAny.done (by kernel_rfl) ?_
            simp -dsimp -implicitDefEqProofs (disch := omega) [go_sem, -List.getD_eq_getElem?_getD, ite_yes, si, ht, lf]
            refine LoopEnd.of ⟨m, l ++ [(d + z, y)], d + z, a7, s7⟩ ⟨by simp only [List.length_append, List.length_singleton]; omega, by simp only; omega, by simp only; omega, by simp only; omega, by simp only; omega⟩ (by simp only; omega) (weakS_sets [some 0, some 1, some 6] rfl ht (h.wms _ _ _ _) ?_ (by simp -dsimp -implicitDefEqProofs (disch := omega) [go_sem, -List.getD_eq_getElem?_getD, ite_yes, ht]))
            simp -dsimp -implicitDefEqProofs (disch := omega) [go_sem, -List.getD_eq_getElem?_getD, ite_yes, ht]
            exact ⟨.inl ⟨rfl, rfl⟩, wl_tcell (by omega) (by simp [sg]), .inl ⟨by simp [bkE], by simp [bkE, flat]⟩⟩
  | zero =>
    simp -dsimp -implicitDefEqProofs (disch := omega) [go_sem, -List.getD_eq_getElem?_getD, ite_yes, lf]
    refine ADraw.midR (TarR H t tc n cc at_ N) ?_ ?_
    · skip
      refine ADraw.any [] (by kernel_rfl) (SubH.nil) ?_
      refine AAny.takes (fuel := 8) (by kernel_rfl) (by kernel_rfl) [0, 2] (by kernel_rfl) (by kernel_rfl) ?_
      simp -dsimp -implicitDefEqProofs (disch := omega) [go_sem, -List.getD_eq_getElem?_getD, ite_yes, si, ht, lf]
      refine AAny.two 7 1 3 (by kernel_rfl) (by kernel_rfl) (by kernel_rfl) ?_ ?_
      · simp -dsimp -implicitDefEqProofs (disch := omega) [go_sem, -List.getD_eq_getElem?_getD, ite_yes, si, ht, lf]
        first | refine AAt.of (SubH.nil) ?_ | (refine ⟨?_, AAt.of (SubH.nil) ?_⟩; · omega)
        refine AAny.one 6 3 (by kernel_rfl) (by kernel_rfl) (by kernel_rfl) ?_
        simp -dsimp -implicitDefEqProofs (disch := omega) [go_sem, -List.getD_eq_getElem?_getD, ite_yes, si, ht, lf]
        first | refine AAt.of (SubH.nil) ?_ | (refine ⟨?_, AAt.of (SubH.nil) ?_⟩; · omega)
        refine AAny.one 5 4 (by kernel_rfl) (by kernel_rfl) (by kernel_rfl) ?_
        simp -dsimp -implicitDefEqProofs (disch := omega) [go_sem, -List.getD_eq_getElem?_getD, ite_yes, si, ht, lf]
        refine ACall.via (among_R ((h.step (by omega)).app _) (by omega) [0, 2, 5, 30, 1000] (by simp) (by simp) _ _ (by omega) (Sl.nthS 3 rfl rfl)) ?_
        rintro _ _ ⟨y, rfl, ym, a7, s7, q7, q7', rfl⟩
        simp -dsimp -implicitDefEqProofs (disch := omega) [go_sem, -List.getD_eq_getElem?_getD, ite_yes, si, ht, lf]
        first | refine AAt.of (SubH.nil) ?_ | (refine ⟨?_, AAt.of (SubH.nil) ?_⟩; · omega)
        refine AAny.one 4 5 (by kernel_rfl) (by kernel_rfl) (by kernel_rfl) ?_
        simp -dsimp -implicitDefEqProofs (disch := omega) [go_sem, -List.getD_eq_getElem?_getD, ite_yes, si, ht, lf]
        first | refine AAt.of (SubH.nil) ?_ | (refine ⟨?_, AAt.of (SubH.nil) ?_⟩; · omega)
        refine AAny.one 3 6 (by kernel_rfl) (by kernel_rfl) (by kernel_rfl) ?_
        simp -dsimp -implicitDefEqProofs (disch := omega) [go_sem, -List.getD_eq_getElem?_getD, ite_yes, si, ht, lf]
        first | refine AAt.of (SubH.nil) ?_ | (refine ⟨?_, AAt.of (SubH.nil) ?_⟩; · omega)
        refine AAny.one 2 7 (by kernel_rfl) (by kernel_rfl) (by kernel_rfl) ?_
        simp -dsimp -implicitDefEqProofs (disch := omega) [go_sem, -List.getD_eq_getElem?_getD, ite_yes, si, ht, lf]
        first | refine AAt.of (SubH.nil) ?_ | (refine ⟨?_, AAt.of (SubH.nil) ?_⟩; · omega)
        refine AAny.takes (fuel := 1) (by kernel_rfl) (by kernel_rfl) [8] (by kernel_rfl) (by kernel_rfl) ?_
        simp -dsimp -implicitDefEqProofs (disch := omega) [go_sem, -List.getD_eq_getElem?_getD, ite_yes, si, ht, lf]
        refine AAny.one 0 9 (by kernel_rfl) (by kernel_rfl) (by kernel_rfl) ?_
        simp -dsimp -implicitDefEqProofs (disch := omega) [go_sem, -List.getD_eq_getElem?_getD, ite_yes, si, ht, lf]
        first | refine AAt.of (SubH.nil) ?_ | (refine ⟨?_, AAt.of (SubH.nil) ?_⟩; · omega)
        refine AAny.done (by kernel_rfl) ?_
        simp -dsimp -implicitDefEqProofs (disch := omega) [go_sem, -List.getD_eq_getElem?_getD, ite_yes, si, ht, lf]
        refine ⟨_, _, ⟨l ++ [(100000, y)], a7, s7, rfl, by simp, by simp only [List.length_append, List.length_singleton]; omega, by omega, by omega, rfl⟩, weakS_sets [some 0, some 1, some 5] rfl ht (h.wms _ _ _ _) ?_ (by simp -dsimp -implicitDefEqProofs (disch := omega) [go_sem, -List.getD_eq_getElem?_getD, ite_yes, ht])⟩
        simp -dsimp -implicitDefEqProofs (disch := omega) [go_sem, -List.getD_eq_getElem?_getD, ite_yes, ht]
        exact ⟨.inl ⟨rfl, rfl⟩, wl_tcell (by omega) (by simp [sg]), .inl ⟨by simp [bkE], by simp [bkE, flat]⟩⟩
      · simp -dsimp -implicitDefEqProofs (disch := omega) [go_sem, -List.getD_eq_getElem?_getD, ite_yes, si, ht, lf]
        first | refine AAt.of (SubH.nil) ?_ | (refine ⟨?_, AAt.of (SubH.nil) ?_⟩; · omega)
        refine AAny.two 6 1 4 (by kernel_rfl) (by kernel_rfl) (by kernel_rfl) ?_ ?_
        · simp -dsimp -implicitDefEqProofs (disch := omega) [go_sem, -List.getD_eq_getElem?_getD, ite_yes, si, ht, lf]
          first | refine AAt.of (SubH.nil) ?_ | (refine ⟨?_, AAt.of (SubH.nil) ?_⟩; · omega)
          refine AAny.one 5 4 (by kernel_rfl) (by kernel_rfl) (by kernel_rfl) ?_
          simp -dsimp -implicitDefEqProofs (disch := omega) [go_sem, -List.getD_eq_getElem?_getD, ite_yes, si, ht, lf]
          refine ACall.via (among_R ((h.step (by omega)).app _) (by omega) [0, 2, 5, 30, 1000] (by simp) (by simp) _ _ (by omega) (Sl.nthS 3 rfl rfl)) ?_
          rintro _ _ ⟨y, rfl, ym, a7, s7, q7, q7', rfl⟩
          simp -dsimp -implicitDefEqProofs (disch := omega) [go_sem, -List.getD_eq_getElem?_getD, ite_yes, si, ht, lf]
          first | refine AAt.of (SubH.nil) ?_ | (refine ⟨?_, AAt.of (SubH.nil) ?_⟩; · omega)
          refine AAny.one 4 5 (by kernel_rfl) (by kernel_rfl) (by kernel_rfl) ?_
          simp -dsimp -implicitDefEqProofs (disch := omega) [go_sem, -List.getD_eq_getElem?_getD, ite_yes, si, ht, lf]
          first | refine AAt.of (SubH.nil) ?_ | (refine ⟨?_, AAt.of (SubH.nil) ?_⟩; · omega)
          refine AAny.one 3 6 (by kernel_rfl) (by kernel_rfl) (by kernel_rfl) ?_
          simp -dsimp -implicitDefEqProofs (disch := omega) [go_sem, -List.getD_eq_getElem?_getD, ite_yes, si, ht, lf]
          first | refine AAt.of (SubH.nil) ?_ | (refine ⟨?_, AAt.of (SubH.nil) ?_⟩; · omega)
          refine AAny.one 2 7 (by kernel_rfl) (by kernel_rfl) (by kernel_rfl) ?_
          simp -dsimp -implicitDefEqProofs (disch := omega) [go_sem, -List.getD_eq_getElem?_getD, ite_yes, si, ht, lf]
          first | refine AAt.of (SubH.nil) ?_ | (refine ⟨?_, AAt.of (SubH.nil) ?_⟩; · omega)
          refine AAny.takes (fuel := 1) (by kernel_rfl) (by kernel_rfl) [8] (by kernel_rfl) (by kernel_rfl) ?_
          simp -dsimp -implicitDefEqProofs (disch := omega) [go_sem, -List.getD_eq_getElem?_getD, ite_yes, si, ht, lf]
          refine AAny.one 0 9 (by kernel_rfl) (by kernel_rfl) (by kernel_rfl) ?_
          simp -dsimp -implicitDefEqProofs (disch := omega) [go_sem, -List.getD_eq_getElem?_getD, ite_yes, si, ht, lf]
          first | refine AAt.of (SubH.nil) ?_ | (refine ⟨?_, AAt.of (SubH.nil) ?_⟩; · omega)
          refine AAny.done (by kernel_rfl) ?_
          simp -dsimp -implicitDefEqProofs (disch := omega) [go_sem, -List.getD_eq_getElem?_getD, ite_yes, si, ht, lf]
          refine ⟨_, _, ⟨l ++ [(100000, y)], a7, s7, rfl, by simp, by simp only [List.length_append, List.length_singleton]; omega, by omega, by omega, rfl⟩, weakS_sets [some 0, some 1, some 5] rfl ht (h.wms _ _ _ _) ?_ (by simp -dsimp -implicitDefEqProofs (disch := omega) [go_sem, -List.getD_eq_getElem?_getD, ite_yes, ht])⟩
          simp -dsimp -implicitDefEqProofs (disch := omega) [go_sem, -List.getD_eq_getElem?_getD, ite_yes, ht]
          exact ⟨.inl ⟨rfl, rfl⟩, wl_tcell (by omega) (by simp [sg]), .inl ⟨by simp [bkE], by simp [bkE, flat]⟩⟩
        · simp -dsimp -implicitDefEqProofs (disch := omega) [go_sem, -List.getD_eq_getElem?_getD, ite_yes, si, ht, lf]
          refine ACall.via (among_R ((h.step (by omega)).app _) (by omega) [0, 2, 5, 30, 1000] (by simp) (by simp) _ _ (by omega) (Sl.nthS 3 rfl rfl)) ?_
          rintro _ _ ⟨y, rfl, ym, a7, s7, q7, q7', rfl⟩
          simp -dsimp -implicitDefEqProofs (disch := omega) [go_sem, -List.getD_eq_getElem?_getD, ite_yes, si, ht, lf]
          first | refine AAt.of (SubH.nil) ?_ | (refine ⟨?_, AAt.of (SubH.nil) ?_⟩; · omega)
          refine AAny.two 5 1 5 (by kernel_rfl) (by kernel_rfl) (by kernel_rfl) ?_ ?_
          · simp -dsimp -implicitDefEqProofs (disch := omega) [go_sem, -List.getD_eq_getElem?_getD, ite_yes, si, ht, lf]
            first | refine AAt.of (SubH.nil) ?_ | (refine ⟨?_, AAt.of (SubH.nil) ?_⟩; · omega)
            refine AAny.one 4 5 (by kernel_rfl) (by kernel_rfl) (by kernel_rfl) ?_
            simp -dsimp -implicitDefEqProofs (disch := omega) [go_sem, -List.getD_eq_getElem?_getD, ite_yes, si, ht, lf]
            first | refine AAt.of (SubH.nil) ?_ | (refine ⟨?_, AAt.of (SubH.nil) ?_⟩; · omega)
            refine AAny.one 3 6 (by kernel_rfl) (by kernel_rfl) (by kernel_rfl) ?_
            simp -dsimp -implicitDefEqProofs (disch := omega) [go_sem, -List.getD_eq_getElem?_getD, ite_yes, si, ht, lf]
            first | refine AAt.of (SubH.nil) ?_ | (refine ⟨?_, AAt.of (SubH.nil) ?_⟩; · omega)
            refine AAny.one 2 7 (by kernel_rfl) (by kernel_rfl) (by kernel_rfl) ?_
            simp -dsimp -implicitDefEqProofs (disch := omega) [go_sem, -List.getD_eq_getElem?_getD, ite_yes, si, ht, lf]
            first | refine AAt.of (SubH.nil) ?_ | (refine ⟨?_, AAt.of (SubH.nil) ?_⟩; · omega)
            refine AAny.takes (fuel := 1) (by kernel_rfl) (by kernel_rfl) [8] (by kernel_rfl) (by kernel_rfl) ?_
            simp -dsimp -implicitDefEqProofs (disch := omega) [go_sem, -List.getD_eq_getElem?_getD, ite_yes, si, ht, lf]
            refine AAny.one 0 9 (by kernel_rfl) (by kernel_rfl) (by kernel_rfl) ?_
            simp -dsimp -implicitDefEqProofs (disch := omega) [go_sem, -List.getD_eq_getElem?_getD, ite_yes, si, ht, lf]
            first | refine AAt.of (SubH.nil) ?_ | (refine ⟨?_, AAt.of (SubH.nil) ?_⟩; · omega)
            refine AAny.done (by kernel_rfl) ?_
            simp -dsimp -implicitDefEqProofs (disch := omega) [go_sem, -List.getD_eq_getElem?_getD, ite_yes, si, ht, lf]
            refine ⟨_, _, ⟨l ++ [(100000, y)], a7, s7, rfl, by simp, by simp only [List.length_append, List.length_singleton]; omega, by omega, by omega, rfl⟩, weakS_sets [some 0, some 1, some 5] rfl ht (h.wms _ _ _ _) ?_ (by simp -dsimp -implicitDefEqProofs (disch := omega) [go_sem, -List.getD_eq_getElem?_getD, ite_yes, ht])⟩
            simp -dsimp -implicitDefEqProofs (disch := omega) [go_sem, -List.getD_eq_getElem?_getD, ite_yes, ht]
            exact ⟨.inl ⟨rfl, rfl⟩, wl_tcell (by omega) (by simp [sg]), .inl ⟨by simp [bkE], by simp [bkE, flat]⟩⟩
          · simp -dsimp -implicitDefEqProofs (disch := omega) [go_sem, -List.getD_eq_getElem?_getD, ite_yes, si, ht, lf]
            first | refine AAt.of (SubH.nil) ?_ | (refine ⟨?_, AAt.of (SubH.nil) ?_⟩; · omega)
            refine AAny.two 4 1 6 (by kernel_rfl) (by kernel_rfl) (by kernel_rfl) ?_ ?_
            · simp -dsimp -implicitDefEqProofs (disch := omega) [go_sem, -List.getD_eq_getElem?_getD, ite_yes, si, ht, lf]
              first | refine AAt.of (SubH.nil) ?_ | (refine ⟨?_, AAt.of (SubH.nil) ?_⟩; · omega)
              refine AAny.one 3 6 (by kernel_rfl) (by kernel_rfl) (by kernel_rfl) ?_
              simp -dsimp -implicitDefEqProofs (disch := omega) [go_sem, -List.getD_eq_getElem?_getD, ite_yes, si, ht, lf]
              first | refine AAt.of (SubH.nil) ?_ | (refine ⟨?_, AAt.of (SubH.nil) ?_⟩; · omega)
              refine AAny.one 2 7 (by kernel_rfl) (by kernel_rfl) (by kernel_rfl) ?_
              simp -dsimp -implicitDefEqProofs (disch := omega) [go_sem, -List.getD_eq_getElem?_getD, ite_yes, si, ht, lf]
              first | refine AAt.of (SubH.nil) ?_ | (refine ⟨?_, AAt.of (SubH.nil) ?_⟩; · omega)
              refine AAny.takes (fuel := 1) (by kernel_rfl) (by kernel_rfl) [8] (by kernel_rfl) (by kernel_rfl) ?_
              simp -dsimp -implicitDefEqProofs (disch := omega) [go_sem, -List.getD_eq_getElem?_getD, ite_yes, si, ht, lf]
              refine AAny.one 0 9 (by kernel_rfl) (by kernel_rfl) (by kernel_rfl) ?_
              simp -dsimp -implicitDefEqProofs (disch := omega) [go_sem, -List.getD_eq_getElem?_getD, ite_yes, si, ht, lf]
              first | refine AAt.of (SubH.nil) ?_ | (refine ⟨?_, AAt.of (SubH.nil) ?_⟩; · omega)
              refine AAny.done (by kernel_rfl) ?_
              simp -dsimp -implicitDefEqProofs (disch := omega) [go_sem, -List.getD_eq_getElem?_getD, ite_yes, si, ht, lf]
              refine ⟨_, _, ⟨l ++ [(100000, y)], a7, s7, rfl, by simp, by simp only [List.length_append, List.length_singleton]; omega, by omega, by omega, rfl⟩, weakS_sets [some 0, some 1, some 5] rfl ht (h.wms _ _ _ _) ?_ (by simp -dsimp -implicitDefEqProofs (disch := omega) [go_sem, -List.getD_eq_getElem?_getD, ite_yes, ht])⟩
              simp -dsimp -implicitDefEqProofs (disch := omega) [go_sem, -List.getD_eq_getElem?_getD, ite_yes, ht]
              exact ⟨.inl ⟨rfl, rfl⟩, wl_tcell (by omega) (by simp [sg]), .inl ⟨by simp [bkE], by simp [bkE, flat]⟩⟩
            · simp -dsimp -implicitDefEqProofs (disch := omega) [go_sem, -List.getD_eq_getElem?_getD, ite_yes, si, ht, lf]
              first | refine AAt.of (SubH.nil) ?_ | (refine ⟨?_, AAt.of (SubH.nil) ?_⟩; · omega)
              refine AAny.one 3 1 (by kernel_rfl) (by kernel_rfl) (by kernel_rfl) ?_
              simp -dsimp -implicitDefEqProofs (disch := omega) [go_sem, -List.getD_eq_getElem?_getD, ite_yes, si, ht, lf]
              first | refine AAt.of (SubH.nil) ?_ | (refine ⟨?_, AAt.of (SubH.nil) ?_⟩; · omega)
              refine AAny.one 2 7 (by kernel_rfl) (by kernel_rfl) (by kernel_rfl) ?_
              simp -dsimp -implicitDefEqProofs (disch := omega) [go_sem, -List.getD_eq_getElem?_getD, ite_yes, si, ht, lf]
              first | refine AAt.of (SubH.nil) ?_ | (refine ⟨?_, AAt.of (SubH.nil) ?_⟩; · omega)
              refine AAny.takes (fuel := 1) (by kernel_rfl) (by kernel_rfl) [8] (by kernel_rfl) (by kernel_rfl) ?_
              simp -dsimp -implicitDefEqProofs (disch := omega) [go_sem, -List.getD_eq_getElem?_getD, ite_yes, si, ht, lf]
              refine AAny.one 0 9 (by kernel_rfl) (by kernel_rfl) (by kernel_rfl) ?_
              simp -dsimp -implicitDefEqProofs (disch := omega) [go_sem, -List.getD_eq_getElem?_getD, ite_yes, si, ht, lf]
              first | refine AAt.of (SubH.nil) ?_ | (refine ⟨?_, AAt.of (SubH.nil) ?_⟩; · omega)
              refine AAny.done (by kernel_rfl) ?_
              simp -dsimp -implicitDefEqProofs (disch := omega) [go_sem, -List.getD_eq_getElem?_getD, ite_yes, si, ht, lf]
              refine ⟨_, _, ⟨l ++ [(100000, y)], a7, s7, rfl, by simp, by simp only [List.length_append, List.length_singleton]; omega, by omega, by omega, rfl⟩, weakS_sets [some 0, some 1, some 5] rfl ht (h.wms _ _ _ _) ?_ (by simp -dsimp -implicitDefEqProofs (disch := omega) [go_sem, -List.getD_eq_getElem?_getD, ite_yes, ht])⟩
              simp -dsimp -implicitDefEqProofs (disch := omega) [go_sem, -List.getD_eq_getElem?_getD, ite_yes, ht]
              exact ⟨.inl ⟨rfl, rfl⟩, wl_tcell (by omega) (by simp [sg]), .inl ⟨by simp [bkE], by simp [bkE, flat]⟩⟩
    clear i1 i2 i3 i4 i5 lf q3 q3' q5 q5'
    rintro fr1 H1 ⟨L, a, s, rfl, hL0, hL6, ha1, ha2, rfl⟩
    have lf := bkE_length L
    simp -dsimp -implicitDefEqProofs (disch := omega) [go_sem, -List.getD_eq_getElem?_getD, ite_yes]
    refine ACall.via (pick_R ((h.step (by omega)).app _) (by omega) L.length (by omega)) ?_
    rintro _ _ ⟨k0, rfl, k00, k01, a4, s4, q4, q4', rfl⟩
    obtain ⟨k0, rfl⟩ : ∃ k : Nat, k0 = (k : Int) := ⟨k0.toNat, by omega⟩
    have hk : k0 < L.length := by omega
    have hkc := flatMap_cells bkE 2 (fun _ => rfl) (0, 0) L k0 hk
    have hk2 : k0 * 2 + 2 ≤ L.length * 2 := by omega
    generalize L.getD k0 (0, 0) = x at hkc
    simp only [bkE] at hkc
    simp -dsimp -implicitDefEqProofs (disch := omega) [go_sem, -List.getD_eq_getElem?_getD, ite_yes, si, hk, lf, hkc, hk2]
    refine ACall.via (pick_R ((h.step (by omega)).app _) (by omega) 40 (by omega)) ?_
    rintro _ _ ⟨r2, rfl, r20, r21, a5, s5, q5, q5', rfl⟩
    simp -dsimp -implicitDefEqProofs (disch := omega) [go_sem, -List.getD_eq_getElem?_getD, ite_yes, si]
    refine AIf.of (fun w0 => ?_) (fun w0 => ?_)
    · simp -dsimp -implicitDefEqProofs (disch := omega) [go_sem, -List.getD_eq_getElem?_getD, ite_yes, si]
      refine ACall.via (among_R ((h.step (by omega)).app _) (by omega) [-1, 100001] (by simp) (by simp) _ _ (by omega) (Sl.nthS 4 rfl rfl)) ?_
      rintro _ _ ⟨z, rfl, zm, a6, s6, q6, q6', rfl⟩
      have se := set_flat_eq (f := bkE) (s := 2) (l := L) (fun _ => rfl) (x.1, x.2) hk
      simp only [bkE] at se
      simp -dsimp -implicitDefEqProofs (disch := omega) [go_sem, -List.getD_eq_getElem?_getD, ite_yes, si, lf, hk, hk2, ht]
      refine EndR.of (.agg #[.int .i64 z, .slice (some ⟨H.length, 0, none⟩) (L.set k0 (x.1, x.2)).length (L.set k0 (x.1, x.2)).length]) (H.set t (curB tc n cc a6 s6) ++ [some ⟨(L.set k0 (x.1, x.2)).flatMap bkE, true, 87, 2⟩]) ⟨z, L.set k0 (x.1, x.2), L.set k0 (x.1, x.2), 0, (L.set k0 (x.1, x.2)).length, a6, s6, rfl, rfl, by rw [List.length_set]; omega, by omega, by omega, rfl⟩ (fin_sets [some 2] rfl ht (h.wms _ _ _ _) ?_ (by simp -dsimp -implicitDefEqProofs (disch := omega) [go_sem, -List.getD_eq_getElem?_getD, ite_yes, ht]))
      simp -dsimp -implicitDefEqProofs (disch := omega) [go_sem, -List.getD_eq_getElem?_getD, ite_yes]
      exact .inl ⟨se, (congrArg (fun x => List.all x flat) se.symm).trans (bkE_flat _)⟩
    simp -dsimp -implicitDefEqProofs (disch := omega) [go_sem, -List.getD_eq_getElem?_getD, ite_yes, si]
    refine AIf.of (fun w1 => ?_) (fun w1 => ?_)
    · simp -dsimp -implicitDefEqProofs (disch := omega) [go_sem, -List.getD_eq_getElem?_getD, ite_yes, si]
      refine ACall.via (among_R ((h.step (by omega)).app _) (by omega) [0, 1, 99999, 100001] (by simp) (by simp) _ _ (by omega) (Sl.nthS 4 rfl rfl)) ?_
      rintro _ _ ⟨z, rfl, zm, a6, s6, q6, q6', rfl⟩
      have se := set_flat_eq (f := bkE) (s := 2) (l := L) (fun _ => rfl) (z, x.2) hk
      simp only [bkE] at se
      simp -dsimp -implicitDefEqProofs (disch := omega) [go_sem, -List.getD_eq_getElem?_getD, ite_yes, si, lf, hk, hk2, ht]
      refine EndR.of (.agg #[.int .i64 N, .slice (some ⟨H.length, 0, none⟩) (L.set k0 (z, x.2)).length (L.set k0 (z, x.2)).length]) (H.set t (curB tc n cc a6 s6) ++ [some ⟨(L.set k0 (z, x.2)).flatMap bkE, true, 87, 2⟩]) ⟨N, L.set k0 (z, x.2), L.set k0 (z, x.2), 0, (L.set k0 (z, x.2)).length, a6, s6, rfl, rfl, by rw [List.length_set]; omega, by omega, by omega, rfl⟩ (fin_sets [some 2] rfl ht (h.wms _ _ _ _) ?_ (by simp -dsimp -implicitDefEqProofs (disch := omega) [go_sem, -List.getD_eq_getElem?_getD, ite_yes, ht]))
      simp -dsimp -implicitDefEqProofs (disch := omega) [go_sem, -List.getD_eq_getElem?_getD, ite_yes]
      exact .inl ⟨se, (congrArg (fun x => List.all x flat) se.symm).trans (bkE_flat _)⟩
    simp -dsimp -implicitDefEqProofs (disch := omega) [go_sem, -List.getD_eq_getElem?_getD, ite_yes, si]
    refine AIf.of (fun w2 => ?_) (fun w2 => ?_)
    · simp -dsimp -implicitDefEqProofs (disch := omega) [go_sem, -List.getD_eq_getElem?_getD, ite_yes, si]
      refine ACall.via (among_R ((h.step (by omega)).app _) (by omega) [-1, 1001] (by simp) (by simp) _ _ (by omega) (Sl.nthS 4 rfl rfl)) ?_
      rintro _ _ ⟨z, rfl, zm, a6, s6, q6, q6', rfl⟩
      have se := set_flat_eq (f := bkE) (s := 2) (l := L) (fun _ => rfl) (x.1, z) hk
      simp only [bkE] at se
      simp -dsimp -implicitDefEqProofs (disch := omega) [go_sem, -List.getD_eq_getElem?_getD, ite_yes, si, lf, hk, hk2, ht]
      refine EndR.of (.agg #[.int .i64 N, .slice (some ⟨H.length, 0, none⟩) (L.set k0 (x.1, z)).length (L.set k0 (x.1, z)).length]) (H.set t (curB tc n cc a6 s6) ++ [some ⟨(L.set k0 (x.1, z)).flatMap bkE, true, 87, 2⟩]) ⟨N, L.set k0 (x.1, z), L.set k0 (x.1, z), 0, (L.set k0 (x.1, z)).length, a6, s6, rfl, rfl, by rw [List.length_set]; omega, by omega, by omega, rfl⟩ (fin_sets [some 2] rfl ht (h.wms _ _ _ _) ?_ (by simp -dsimp -implicitDefEqProofs (disch := omega) [go_sem, -List.getD_eq_getElem?_getD, ite_yes, ht]))
      simp -dsimp -implicitDefEqProofs (disch := omega) [go_sem, -List.getD_eq_getElem?_getD, ite_yes]
      exact .inl ⟨se, (congrArg (fun x => List.all x flat) se.symm).trans (bkE_flat _)⟩
    simp -dsimp -implicitDefEqProofs (disch := omega) [go_sem, -List.getD_eq_getElem?_getD, ite_yes, si]
    refine AIf.of (fun w3 => ?_) (fun w3 => ?_)
    · simp -dsimp -implicitDefEqProofs (disch := omega) [go_sem, -List.getD_eq_getElem?_getD, ite_yes, si]
      refine ACall.via (pick_R ((h.step (by omega)).app _) (by omega) 2 (by omega)) ?_
      rintro _ _ ⟨r, rfl, r0, r1, a6, s6, q6, q6', rfl⟩
      have hr : r = 0 ∨ r = 1 := by omega
      rcases hr with rfl | rfl
      · simp -dsimp -implicitDefEqProofs (disch := omega) [go_sem, -List.getD_eq_getElem?_getD, ite_yes, si, ht]
        refine EndR.of (.agg #[.int .i64 N, .slice (some ⟨H.length, 2, none⟩) ([(2, 0), (3, 0), (4, 0), (5, 0), (100000, 0)]).length ([(2, 0), (3, 0), (4, 0), (5, 0), (100000, 0)]).length]) (H.set t (curB tc n cc a6 s6) ++ [some ⟨([(1, 0), (2, 0), (3, 0), (4, 0), (5, 0), (100000, 0)]).flatMap bkE, true, 87, 2⟩]) ⟨N, [(1, 0), (2, 0), (3, 0), (4, 0), (5, 0), (100000, 0)], [(2, 0), (3, 0), (4, 0), (5, 0), (100000, 0)], 2, ([(2, 0), (3, 0), (4, 0), (5, 0), (100000, 0)]).length, a6, s6, rfl, rfl, by simp, by omega, by omega, rfl⟩ (fin_sets [some 4] rfl ht (h.wms _ _ _ _) ?_ (by simp -dsimp -implicitDefEqProofs (disch := omega) [go_sem, -List.getD_eq_getElem?_getD, ite_yes, ht]))
        simp -dsimp -implicitDefEqProofs (disch := omega) [go_sem, -List.getD_eq_getElem?_getD, ite_yes]
        exact .inl ⟨rfl, rfl⟩
      · simp -dsimp -implicitDefEqProofs (disch := omega) [go_sem, -List.getD_eq_getElem?_getD, ite_yes, si, ht]
        refine EndR.of (.agg #[.int .i64 N, .slice (some ⟨H.length, 0, none⟩) ([(1, 0), (2, 0), (3, 0), (4, 0), (5, 0), (100000, 0)]).length ([(1, 0), (2, 0), (3, 0), (4, 0), (5, 0), (100000, 0)]).length]) (H.set t (curB tc n cc a6 s6) ++ [some ⟨([(1, 0), (2, 0), (3, 0), (4, 0), (5, 0), (100000, 0)]).flatMap bkE, true, 87, 2⟩]) ⟨N, [(1, 0), (2, 0), (3, 0), (4, 0), (5, 0), (100000, 0)], [(1, 0), (2, 0), (3, 0), (4, 0), (5, 0), (100000, 0)], 0, ([(1, 0), (2, 0), (3, 0), (4, 0), (5, 0), (100000, 0)]).length, a6, s6, rfl, rfl, by simp, by omega, by omega, rfl⟩ (fin_sets [some 4] rfl ht (h.wms _ _ _ _) ?_ (by simp -dsimp -implicitDefEqProofs (disch := omega) [go_sem, -List.getD_eq_getElem?_getD, ite_yes, ht]))
        simp -dsimp -implicitDefEqProofs (disch := omega) [go_sem, -List.getD_eq_getElem?_getD, ite_yes]
        exact .inl ⟨rfl, rfl⟩
    simp -dsimp -implicitDefEqProofs (disch := omega) [go_sem, -List.getD_eq_getElem?_getD, ite_yes, si]
    refine AIf.of (fun w4 => ?_) (fun w4 => ?_)
    · simp -dsimp -implicitDefEqProofs (disch := omega) [go_sem, -List.getD_eq_getElem?_getD, ite_yes, si, ht]
      refine EndR.of (.agg #[.int .i64 N, .slice (some ⟨H.length, 0, none⟩) (([] : List Bk)).length (([] : List Bk)).length]) (H.set t (curB tc n cc a5 s5) ++ [some ⟨(([] : List Bk)).flatMap bkE, true, 87, 2⟩]) ⟨N, ([] : List Bk), ([] : List Bk), 0, (([] : List Bk)).length, a5, s5, rfl, rfl, by simp, by omega, by omega, rfl⟩ (fin_sets [some 4] rfl ht (h.wms _ _ _ _) ?_ (by simp -dsimp -implicitDefEqProofs (disch := omega) [go_sem, -List.getD_eq_getElem?_getD, ite_yes, ht]))
      simp -dsimp -implicitDefEqProofs (disch := omega) [go_sem, -List.getD_eq_getElem?_getD, ite_yes]
      exact .inl ⟨rfl, rfl⟩
    have se := set_flat_eq (f := bkE) (s := 2) (l := L) (fun _ => rfl) (x.1, x.2) hk
    simp only [bkE] at se
    simp -dsimp -implicitDefEqProofs (disch := omega) [go_sem, -List.getD_eq_getElem?_getD, ite_yes, si, lf, hk, hk2, ht]
    refine EndR.of (.agg #[.int .i64 N, .slice (some ⟨H.length, 0, none⟩) (L.set k0 (x.1, x.2)).length (L.set k0 (x.1, x.2)).length]) (H.set t (curB tc n cc a5 s5) ++ [some ⟨(L.set k0 (x.1, x.2)).flatMap bkE, true, 87, 2⟩]) ⟨N, L.set k0 (x.1, x.2), L.set k0 (x.1, x.2), 0, (L.set k0 (x.1, x.2)).length, a5, s5, rfl, rfl, by rw [List.length_set]; omega, by omega, by omega, rfl⟩ (fin_sets [some 2] rfl ht (h.wms _ _ _ _) ?_ (by simp -dsimp -implicitDefEqProofs (disch := omega) [go_sem, -List.getD_eq_getElem?_getD, ite_yes, ht]))
    simp -dsimp -implicitDefEqProofs (disch := omega) [go_sem, -List.getD_eq_getElem?_getD, ite_yes]
    exact .inl ⟨se, (congrArg (fun x => List.all x flat) se.symm).trans (bkE_flat _)⟩
end Go.Proofs.Ytappbdfieccfeaa
