/- Dry nodes and pipes: both sides. -/
import Derived.Test.YtamkdgjagjpmlaaSpreadW
import Derived.Test.YtamkdgjagjpmlaaReached
namespace Go.Proofs.Ytamkdgjagjpmlaa
open Go.Am
set_option linter.unusedVariables false
set_option linter.unusedSimpArgs false
set_option maxRecDepth 100000
set_option maxHeartbeats 4000000

/-- the dry nodes up to k, and the dry pipes below k -/
def dryN (R : List Bool) : Nat → List Int
  | 0 => []
  | k + 1 => if R.getD (k + 1) false then dryN R k else dryN R k ++ [((k + 1 : Nat) : Int)]
def dryP (R : List Bool) : Nat → List Int
  | 0 => []
  | k + 1 => if R.getD (9 + k) false then dryP R k else dryP R k ++ [(k : Int)]
theorem dryN_length (R : List Bool) : ∀ k, (dryN R k).length ≤ k
  | 0 => Nat.le_refl _
  | k + 1 => by have := dryN_length R k; rw [dryN]; split <;> simp <;> omega
theorem dryP_length (R : List Bool) : ∀ k, (dryP R k).length ≤ k
  | 0 => Nat.le_refl _
  | k + 1 => by have := dryP_length R k; rw [dryP]; split <;> simp <;> omega
/-- what water reaches -/
def wetR (ps : List Pp) (l : List Vl) (src : Int) : List Bool := reach (openB l) ps src
theorem wetR_length {n : Int} {ps : List Pp} (h : NetAt n ps) (l : List Vl) (src : Int) : (wetR ps l src).length = 19 := reach_length h _ _
theorem l4Dry_A (n : Int) (ps : List Pp) (hN : NetAt n ps) (cp : Nat) (l : List Vl) (hl : l.length ≤ 1048577) (c : Nat) (src : Int) (hsrc : 1 ≤ src ∧ src ≤ n) (H : Heap) (tp tv : Nat) (hP : Sl ppE H tp ps) (hV : Sl vlE H tv l) :
    AFunC Try.prog 35 [netV n tp ps.length cp, .slice (some ⟨tv, 0, none⟩) l.length c, .int .i64 src] H
      (.tuple #[.slice (some ⟨H.length, 0, none⟩) (dryN (wetR ps l src) n.toNat).length 0, .slice (some ⟨H.length + 1, 0, none⟩) (dryP (wetR ps l src) ps.length).length 0])
      (H ++ [some ⟨(dryN (wetR ps l src) n.toNat).flatMap nmE, true, 3, 1⟩, some ⟨(dryP (wetR ps l src) ps.length).flatMap nmE, true, 3, 1⟩]) := by
  refine AFunC.of_body Try.func35 (by kernel_rfl) rfl (by kernel_rfl) (by simp [Try.ntmps35]) ?_
  have htp := hP.lt
  have htv := hV.lt
  have hn := hN.f_n
  have hpl := hN.f_len
  obtain ⟨s, rfl⟩ : ∃ s : Nat, src = (s : Int) := ⟨src.toNat, by omega⟩
  obtain ⟨q, rfl⟩ : ∃ q : Nat, n = (q : Int) := ⟨n.toNat, by omega⟩
  generalize hR : wetR ps l (s : Int) = R
  have hspr : Spr (openB l) ps (start (s : Int)) R := hR ▸ spr_reach hN _ _
  rw [Int.toNat_natCast]
  simp -dsimp -implicitDefEqProofs (disch := omega) [go_sem, -List.getD_eq_getElem?_getD, ite_yes, htp, htv]
  have hsp := SpL.start (show s < 9 by omega) (H ++ [some ⟨[.int .i64 (q : Int), .slice (some ⟨tp, 0, none⟩) ps.length cp], true, 34, 1⟩])
  have r := l4Spread_R (q : Int) ps hN cp l hl c [(s : Int)] [] (H.length + 1) 1 (H.length + 2) 0 (start (s : Int)) (H ++ [some ⟨[.int .i64 (q : Int), .slice (some ⟨tp, 0, none⟩) ps.length cp], true, 34, 1⟩, some ⟨[.int .i64 (s : Int)], true, 3, 1⟩, some ⟨[], true, 3, 1⟩]) tp tv hP.app hV.app (by simpa using hsp) (tp + 1) (by omega) (by simp; omega) R hspr
  refine ACall.via r ?_
  rintro v K ⟨N, P, un, dn, um, dm, rfl, kx1, sp⟩
  have kx0 : KExt (tp + 1) H (H ++ [some ⟨[.int .i64 (q : Int), .slice (some ⟨tp, 0, none⟩) ps.length cp], true, 34, 1⟩, some ⟨[.int .i64 (s : Int)], true, 3, 1⟩, some ⟨[], true, 3, 1⟩]) := by
    have := (((KExt.refl (b0 := tp + 1) (H := H) (by omega)).snoc (b := ⟨[.int .i64 (q : Int), .slice (some ⟨tp, 0, none⟩) ps.length cp], true, 34, 1⟩) (wm_net (by omega))).flat (xs := [.int .i64 (s : Int)]) (o := true) (e := 3) (z := 1) rfl).flat (xs := []) (o := true) (e := 3) (z := 1) rfl
    simpa using this
  have net0 : aCells K ⟨H.length, 0, none⟩ 1 = some [.int .i64 (q : Int)] := by
    obtain ⟨L, rfl⟩ := kx1.drop
    simp [aCells_at0, Heap.get_cons, aC1]
  have net1 : aCells K ⟨H.length, 1, none⟩ 1 = some [.slice (some ⟨tp, 0, none⟩) ps.length cp] := by
    obtain ⟨L, rfl⟩ := kx1.drop
    simp [aCells_at0, Heap.get_cons, aC1]
  have klt : H.length < K.length := by have := kx1.le; simp at this; omega
  have kx := kx0.trans kx1
  clear kx0 kx1
  have kn := sp.sN.lt
  have km := sp.sP.lt
  have hbd := sp.bound
  simp -dsimp -implicitDefEqProofs (disch := omega) [go_sem, -List.getD_eq_getElem?_getD, ite_yes]
  refine ALoop.intro (ι := Nat) (fun k => k ≤ q) (fun k => [(3, .pointer (some ⟨H.length, 0, none⟩)), (8, .slice (some ⟨un, 0, none⟩) N.length dn), (9, .slice (some ⟨um, 0, none⟩) P.length dm), (10, .slice (some ⟨K.length, 0, none⟩) (dryN R k).length 0), (11, .slice (some ⟨K.length + 1, 0, none⟩) 0 0), (12, .int .i64 ((k : Int) + 1))])
    (fun k => K ++ [some ⟨(dryN R k).flatMap nmE, true, 3, 1⟩, some ⟨[], true, 3, 1⟩]) (fun k => q - k) 0 (by omega) ?_ ?_
  · refine weakS_kmk kx [some 0, some 1] rfl ?_ (by simp -dsimp -implicitDefEqProofs (disch := omega) [go_sem, -List.getD_eq_getElem?_getD, ite_yes, klt, kn, km, dryN])
    simp -dsimp -implicitDefEqProofs (disch := omega) [go_sem, -List.getD_eq_getElem?_getD, ite_yes, dryN]
    exact .inl ⟨rfl, rfl⟩
  · intro k hk
    have hdl := dryN_length R k
    have hfl : ((dryN R k).flatMap nmE).length = (dryN R k).length := by rw [nmE_length]; omega
    by_cases hlt : k < q
    · have h1 : (k : Int) + 1 ≤ (q : Int) := by omega
      have mN := sp.memN (k + 1) (by omega)
      rw [show ((k + 1 : Nat) : Int) = (k : Int) + 1 by omega] at mN
      simp -dsimp -implicitDefEqProofs (disch := omega) [go_sem, -List.getD_eq_getElem?_getD, ite_yes, net0, klt, h1]
      refine ACall.of (l1Has_A N ((k : Int) + 1) (by omega) dn _ un sp.sN.app) ?_
      have e : dryN R (k + 1) = if R.getD (k + 1) false then dryN R k else dryN R k ++ [((k + 1 : Nat) : Int)] := rfl
      cases hh : hasI N ((k : Int) + 1)
      · rw [← mN, hh] at e
        simp only [Bool.false_eq_true, if_false] at e
        simp -dsimp -implicitDefEqProofs (disch := omega) [go_sem, -List.getD_eq_getElem?_getD, ite_yes, hfl]
        refine ⟨by omega, LoopEnd.of (k + 1) (by omega) (by omega) (weakS_kmk kx [some 3, some 1] rfl ?_ (by simp -dsimp -implicitDefEqProofs (disch := omega) [go_sem, -List.getD_eq_getElem?_getD, ite_yes, klt, kn, km, e]))⟩
        simp -dsimp -implicitDefEqProofs (disch := omega) [go_sem, -List.getD_eq_getElem?_getD, ite_yes]
        exact ⟨.inl ⟨by rw [e, List.flatMap_append]; rfl, by rw [show List.flatMap nmE (dryN R k) ++ [Value.int IntKind.i64 (↑k + 1)] = List.flatMap nmE (dryN R (k + 1)) by rw [e, List.flatMap_append]; rfl]; exact nmE_flat _⟩, .inl ⟨rfl, rfl⟩⟩
      · rw [← mN, hh, if_pos rfl] at e
        simp -dsimp -implicitDefEqProofs (disch := omega) [go_sem, -List.getD_eq_getElem?_getD, ite_yes]
        refine LoopEnd.of (k + 1) (by omega) (by omega) (weakS_kmk kx [some 0, some 1] rfl ?_ (by simp -dsimp -implicitDefEqProofs (disch := omega) [go_sem, -List.getD_eq_getElem?_getD, ite_yes, klt, kn, km, e]))
        simp -dsimp -implicitDefEqProofs (disch := omega) [go_sem, -List.getD_eq_getElem?_getD, ite_yes]
        exact ⟨.inl ⟨by rw [e], nmE_flat _⟩, .inl ⟨rfl, rfl⟩⟩
    · obtain rfl : k = q := by omega
      have h1 : ¬ (k : Int) + 1 ≤ (k : Int) := by omega
      simp -dsimp -implicitDefEqProofs (disch := omega) [go_sem, -List.getD_eq_getElem?_getD, ite_yes, net0, klt, h1]
      refine ALoop.intro (ι := Nat) (fun j => j ≤ ps.length) (fun j => [(3, .pointer (some ⟨H.length, 0, none⟩)), (8, .slice (some ⟨un, 0, none⟩) N.length dn), (9, .slice (some ⟨um, 0, none⟩) P.length dm), (10, .slice (some ⟨K.length, 0, none⟩) (dryN R k).length 0), (11, .slice (some ⟨K.length + 1, 0, none⟩) (dryP R j).length 0), (13, .int .i64 j)])
        (fun j => K ++ [some ⟨(dryN R k).flatMap nmE, true, 3, 1⟩, some ⟨(dryP R j).flatMap nmE, true, 3, 1⟩]) (fun j => ps.length - j) 0 (by omega) ?_ ?_
      · refine weakS_kmk kx [some 0, some 1] rfl ?_ (by simp -dsimp -implicitDefEqProofs (disch := omega) [go_sem, -List.getD_eq_getElem?_getD, ite_yes, klt, kn, km, dryP])
        simp -dsimp -implicitDefEqProofs (disch := omega) [go_sem, -List.getD_eq_getElem?_getD, ite_yes, dryP]
        exact ⟨.inl ⟨rfl, nmE_flat _⟩, .inl ⟨rfl, rfl⟩⟩
      intro j hj
      have hdp := dryP_length R j
      have hfp : ((dryP R j).flatMap nmE).length = (dryP R j).length := by rw [nmE_length]; omega
      by_cases hlj : j < ps.length
      · have mP := sp.memP j (by omega)
        simp -dsimp -implicitDefEqProofs (disch := omega) [go_sem, -List.getD_eq_getElem?_getD, ite_yes, net1, klt, hlj]
        refine ACall.of (l1Has_A P (j : Int) (by omega) dm _ um sp.sP.app) ?_
        have e : dryP R (j + 1) = if R.getD (9 + j) false then dryP R j else dryP R j ++ [(j : Int)] := rfl
        cases hh : hasI P (j : Int)
        · rw [← mP, hh] at e
          simp only [Bool.false_eq_true, if_false] at e
          simp -dsimp -implicitDefEqProofs (disch := omega) [go_sem, -List.getD_eq_getElem?_getD, ite_yes, hfp]
          refine ⟨by omega, LoopEnd.of (j + 1) (by omega) (by omega) (weakS_kmk kx [some 0, some 3] rfl ?_ (by simp -dsimp -implicitDefEqProofs (disch := omega) [go_sem, -List.getD_eq_getElem?_getD, ite_yes, klt, kn, km, e]))⟩
          simp -dsimp -implicitDefEqProofs (disch := omega) [go_sem, -List.getD_eq_getElem?_getD, ite_yes]
          exact ⟨.inl ⟨rfl, nmE_flat _⟩, .inl ⟨by rw [e, List.flatMap_append]; rfl, by rw [show List.flatMap nmE (dryP R j) ++ [Value.int IntKind.i64 ↑j] = List.flatMap nmE (dryP R (j + 1)) by rw [e, List.flatMap_append]; rfl]; exact nmE_flat _⟩⟩
        · rw [← mP, hh, if_pos rfl] at e
          simp -dsimp -implicitDefEqProofs (disch := omega) [go_sem, -List.getD_eq_getElem?_getD, ite_yes]
          refine LoopEnd.of (j + 1) (by omega) (by omega) (weakS_kmk kx [some 0, some 1] rfl ?_ (by simp -dsimp -implicitDefEqProofs (disch := omega) [go_sem, -List.getD_eq_getElem?_getD, ite_yes, klt, kn, km, e]))
          simp -dsimp -implicitDefEqProofs (disch := omega) [go_sem, -List.getD_eq_getElem?_getD, ite_yes]
          exact ⟨.inl ⟨rfl, nmE_flat _⟩, .inl ⟨by rw [e], nmE_flat _⟩⟩
      · obtain rfl : j = ps.length := by omega
        simp -dsimp -implicitDefEqProofs (disch := omega) [go_sem, -List.getD_eq_getElem?_getD, ite_yes, net1, klt]
        exact fin_two kx (nmE_flat _) (nmE_flat _)
end Go.Proofs.Ytamkdgjagjpmlaa
