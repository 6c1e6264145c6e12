/- UsefulValves: both sides, and the law. -/
import Derived.Test.YtaehphcaiabdmaaStillDryLaw
namespace Go.Proofs.Ytaehphcaiabdmaa
open Go.Am
set_option linter.unusedVariables false
set_option linter.unusedSimpArgs false
set_option maxRecDepth 100000
set_option maxHeartbeats 4000000

theorem opL_nil (l : List Vl) : opL l [] = l := by
  refine List.ext_getElem (opL_length l []) fun i h1 h2 => ?_
  have := opL_getD l [] h2
  rw [List.getD_eq_getElem?_getD, List.getElem?_eq_getElem h1, List.getD_eq_getElem?_getD, List.getElem?_eq_getElem h2] at this
  simpa [opV, hasI] using this
theorem dryO_nil (n : Int) (ps : List Pp) (l : List Vl) (src : Int) : dryN (wetR ps l src) n.toNat = dryO n ps l src [] := by rw [dryO, opL_nil]
theorem iDryO_A (n : Int) (ps : List Pp) (cp : Nat) (l : List Vl) (hg : goodV n ps l = true) (c : Nat) (src : Int) (hsrc : 1 ≤ src ∧ src ≤ n) (ids : List Int) (H : Heap) (tp t : Nat) (hP : Sl ppE H tp ps) (hS : Sl vlE H t (opL l ids)) :
    AFunC Try.prog 49 [netV n tp ps.length cp, .slice (some ⟨t, 0, none⟩) l.length c, .int .i64 src] H (.tuple #[.slice (some ⟨H.length, 0, none⟩) (dryO n ps l src ids).length 0, .bool true]) (H ++ [some ⟨(dryO n ps l src ids).flatMap nmE, true, 3, 1⟩]) :=
  opL_length l ids ▸ iDryNodes_A n ps cp (opL l ids) (goodV_opL hg ids) c src hsrc H tp t hP hS
/-- the first k shut valves that are useful -/
def useTo (n : Int) (ps : List Pp) (l : List Vl) (src : Int) : Nat → List Int
  | 0 => []
  | k + 1 => if (dryO n ps l src [(shutL l).getD k 0]).length < (dryO n ps l src []).length then useTo n ps l src k ++ [(shutL l).getD k 0] else useTo n ps l src k
theorem useTo_length (n : Int) (ps : List Pp) (l : List Vl) (src : Int) : ∀ k, (useTo n ps l src k).length ≤ k
  | 0 => Nat.le_refl _
  | k + 1 => by have := useTo_length n ps l src k; rw [useTo]; split <;> simp <;> omega
def useL (n : Int) (ps : List Pp) (l : List Vl) (src : Int) : List Int := useTo n ps l src (shutL l).length
theorem iUseful_good (n : Int) (ps : List Pp) (cp : Nat) (l : List Vl) (c : Nat) (src : Int) (hq : askR n ps l src = true) (H : Heap) (tp t : Nat) (hP : Sl ppE H tp ps) (hS : Sl vlE H t l) :
    AFunC Try.prog 25 [netV n tp ps.length cp, .slice (some ⟨t, 0, none⟩) l.length c, .int .i64 src] H (.tuple #[.slice (some ⟨H.length, 0, none⟩) (useL n ps l src).length 0, .bool true]) (H ++ [some ⟨(useL n ps l src).flatMap nmE, true, 3, 1⟩]) := by
  refine AFunC.of_body Try.func25 (by kernel_rfl) rfl (by kernel_rfl) (by simp [Try.ntmps25]) ?_
  have htp := hP.lt
  have ht := hS.lt
  obtain ⟨hg, hN, hl, hsrc, hs6⟩ := askR_at hq
  have hpl := hN.f_len
  have hn := hN.f_n
  simp -dsimp -implicitDefEqProofs (disch := omega) [go_sem, -List.getD_eq_getElem?_getD, ite_yes, htp, ht]
  refine ACall.of (canReopen_A n ps (by omega) cp l (by omega) c src _ tp t hP.app hS.app) ?_
  simp -dsimp -implicitDefEqProofs (disch := omega) [go_sem, -List.getD_eq_getElem?_getD, ite_yes, hq, htp, ht]
  refine ACall.of (dryO_nil n ps l src ▸ iDryNodes_A n ps cp l hg c src hsrc _ tp t hP.app hS.app) ?_
  simp -dsimp -implicitDefEqProofs (disch := omega) [go_sem, -List.getD_eq_getElem?_getD, ite_yes, htp, ht]
  refine ACall.of (shutIds_A l (by omega) c _ t hS.app) ?_
  simp -dsimp -implicitDefEqProofs (disch := omega) [go_sem, -List.getD_eq_getElem?_getD, ite_yes, htp, ht]
  have hbl := dryO_length n ps l src []
  generalize hB : dryO n ps l src [] = B at *
  refine ALoop.intro (ι := Nat) (fun k => k ≤ (shutL l).length) (fun k => [(1, .slice (some ⟨t, 0, none⟩) l.length c), (2, .int .i64 src), (3, .pointer (some ⟨H.length, 0, none⟩)), (8, .slice (some ⟨H.length + 1, 0, none⟩) (useTo n ps l src k).length 0), (9, .slice (some ⟨H.length + 2, 0, none⟩) B.length 0), (29, .slice (some ⟨H.length + 3, 0, none⟩) (shutL l).length 0), (30, .int .i64 (shutL l).length), (31, .int .i64 k)])
    (fun k => H ++ [some ⟨[.int .i64 n, .slice (some ⟨tp, 0, none⟩) ps.length cp], true, 33, 1⟩, some ⟨(useTo n ps l src k).flatMap nmE, true, 3, 1⟩, some ⟨B.flatMap nmE, true, 3, 1⟩, some ⟨(shutL l).flatMap nmE, true, 3, 1⟩]) (fun k => (shutL l).length - k) 0 (by omega) ?_ ?_
  · refine weakS_mk [some 0, some 1, some 2, some 3] rfl ?_ (by simp -dsimp -implicitDefEqProofs (disch := omega) [go_sem, -List.getD_eq_getElem?_getD, ite_yes, htp, ht, useTo])
    simp -dsimp -implicitDefEqProofs (disch := omega) [go_sem, -List.getD_eq_getElem?_getD, ite_yes, useTo]
    exact ⟨wl_net htp, .inl ⟨rfl, rfl⟩, .inl ⟨rfl, nmE_flat _⟩, .inl ⟨rfl, nmE_flat _⟩⟩
  intro k hk
  have hul := useTo_length n ps l src k
  have hfl : ((useTo n ps l src k).flatMap nmE).length = (useTo n ps l src k).length := by rw [nmE_length]; omega
  by_cases hlt : k < (shutL l).length
  · have e : useTo n ps l src (k + 1) = if (dryO n ps l src [(shutL l).getD k 0]).length < (dryO n ps l src []).length then useTo n ps l src k ++ [(shutL l).getD k 0] else useTo n ps l src k := rfl
    rw [hB] at e
    have c1 := nm_cell1 (shutL l) hlt
    have hfs : ((shutL l).flatMap nmE).length = (shutL l).length := by rw [nmE_length]; omega
    generalize (shutL l).getD k 0 = id at *
    by_cases hc : (dryO n ps l src [id]).length < B.length
    · rw [if_pos hc] at e
      simp -dsimp -implicitDefEqProofs (disch := omega) [go_sem, -List.getD_eq_getElem?_getD, ite_yes, hlt, htp, ht, c1, hfs]
      refine ADraw.any H (by kernel_rfl) (by first | exact SubH.refl | exact SubH.app | exact SubH.both (by simp [subL])) ?_
      refine AAny.takes (fuel := 9) (by kernel_rfl) (by kernel_rfl) [1, 2, 5] (by kernel_rfl) (by kernel_rfl) ?_
      simp -dsimp -implicitDefEqProofs (disch := omega) [go_sem, -List.getD_eq_getElem?_getD, ite_yes, htp, ht, hc, hfl]
      refine AAny.two 8 0 3 (by kernel_rfl) (by kernel_rfl) (by kernel_rfl) ?_ ?_
      · simp -dsimp -implicitDefEqProofs (disch := omega) [go_sem, -List.getD_eq_getElem?_getD, ite_yes, htp, ht, hc, hfl]
        first | refine AAt.of (by first | exact SubH.refl | exact SubH.app | exact SubH.both (by simp [subL])) ?_ | (refine ⟨?_, AAt.of (by first | exact SubH.refl | exact SubH.app | exact SubH.both (by simp [subL])) ?_⟩; · omega)
        refine AAny.one 7 3 (by kernel_rfl) (by kernel_rfl) (by kernel_rfl) ?_
        simp -dsimp -implicitDefEqProofs (disch := omega) [go_sem, -List.getD_eq_getElem?_getD, ite_yes, htp, ht, hc, hfl]
        first | refine AAt.of (by first | exact SubH.refl | exact SubH.app | exact SubH.both (by simp [subL])) ?_ | (refine ⟨?_, AAt.of (by first | exact SubH.refl | exact SubH.app | exact SubH.both (by simp [subL])) ?_⟩; · omega)
        refine AAny.one 6 4 (by kernel_rfl) (by kernel_rfl) (by kernel_rfl) ?_
        simp -dsimp -implicitDefEqProofs (disch := omega) [go_sem, -List.getD_eq_getElem?_getD, ite_yes, htp, ht, hc, hfl]
        refine ACall.of (opened_A l (by omega) c [id] (by simp) 1 0 _ t (H.length + 4) hS.app (IdS.of (Sl.nth 4 rfl rfl))) ?_
        simp -dsimp -implicitDefEqProofs (disch := omega) [go_sem, -List.getD_eq_getElem?_getD, ite_yes, htp, ht, hc, hfl]
        first | refine AAt.of (by first | exact SubH.refl | exact SubH.app | exact SubH.both (by simp [subL])) ?_ | (refine ⟨?_, AAt.of (by first | exact SubH.refl | exact SubH.app | exact SubH.both (by simp [subL])) ?_⟩; · omega)
        refine AAny.one 5 6 (by kernel_rfl) (by kernel_rfl) (by kernel_rfl) ?_
        simp -dsimp -implicitDefEqProofs (disch := omega) [go_sem, -List.getD_eq_getElem?_getD, ite_yes, htp, ht, hc, hfl]
        refine ACall.of (iDryO_A n ps cp l hg 0 src hsrc [id] _ tp (H.length + 5) hP.app (Sl.nth 5 rfl rfl)) ?_
        simp -dsimp -implicitDefEqProofs (disch := omega) [go_sem, -List.getD_eq_getElem?_getD, ite_yes, htp, ht, hc, hfl]
        first | refine AAt.of (by first | exact SubH.refl | exact SubH.app | exact SubH.both (by simp [subL])) ?_ | (refine ⟨?_, AAt.of (by first | exact SubH.refl | exact SubH.app | exact SubH.both (by simp [subL])) ?_⟩; · omega)
        refine AAny.takes (fuel := 0) (by kernel_rfl) (by kernel_rfl) [7, 8, 9, 10, 11] (by kernel_rfl) (by kernel_rfl) ?_
        simp -dsimp -implicitDefEqProofs (disch := omega) [go_sem, -List.getD_eq_getElem?_getD, ite_yes, htp, ht, hc, hfl]
        refine AAny.done (by kernel_rfl) ?_
        simp -dsimp -implicitDefEqProofs (disch := omega) [go_sem, -List.getD_eq_getElem?_getD, ite_yes, htp, ht, hc, hfl]
        refine ⟨by omega, LoopEnd.of (k + 1) (by omega) (by omega) (weakS_mk [some 0, some 8, some 2, some 3] rfl ?_ (by simp -dsimp -implicitDefEqProofs (disch := omega) [go_sem, -List.getD_eq_getElem?_getD, ite_yes, htp, ht, e]))⟩
        simp -dsimp -implicitDefEqProofs (disch := omega) [go_sem, -List.getD_eq_getElem?_getD, ite_yes]
        exact ⟨wl_net htp, .inl ⟨by rw [e, List.flatMap_append]; rfl, by rw [show List.flatMap nmE (useTo n ps l src k) ++ [Value.int IntKind.i64 id] = List.flatMap nmE (useTo n ps l src (k + 1)) by rw [e, List.flatMap_append]; rfl]; exact nmE_flat _⟩, .inl ⟨rfl, nmE_flat _⟩, .inl ⟨rfl, nmE_flat _⟩⟩
      · simp -dsimp -implicitDefEqProofs (disch := omega) [go_sem, -List.getD_eq_getElem?_getD, ite_yes, htp, ht, hc, hfl]
        first | refine AAt.of (by first | exact SubH.refl | exact SubH.app | exact SubH.both (by simp [subL])) ?_ | (refine ⟨?_, AAt.of (by first | exact SubH.refl | exact SubH.app | exact SubH.both (by simp [subL])) ?_⟩; · omega)
        refine AAny.two 7 0 4 (by kernel_rfl) (by kernel_rfl) (by kernel_rfl) ?_ ?_
        · simp -dsimp -implicitDefEqProofs (disch := omega) [go_sem, -List.getD_eq_getElem?_getD, ite_yes, htp, ht, hc, hfl]
          first | refine AAt.of (by first | exact SubH.refl | exact SubH.app | exact SubH.both (by simp [subL])) ?_ | (refine ⟨?_, AAt.of (by first | exact SubH.refl | exact SubH.app | exact SubH.both (by simp [subL])) ?_⟩; · omega)
          refine AAny.one 6 4 (by kernel_rfl) (by kernel_rfl) (by kernel_rfl) ?_
          simp -dsimp -implicitDefEqProofs (disch := omega) [go_sem, -List.getD_eq_getElem?_getD, ite_yes, htp, ht, hc, hfl]
          refine ACall.of (opened_A l (by omega) c [id] (by simp) 1 0 _ t (H.length + 4) hS.app (IdS.of (Sl.nth 4 rfl rfl))) ?_
          simp -dsimp -implicitDefEqProofs (disch := omega) [go_sem, -List.getD_eq_getElem?_getD, ite_yes, htp, ht, hc, hfl]
          first | refine AAt.of (by first | exact SubH.refl | exact SubH.app | exact SubH.both (by simp [subL])) ?_ | (refine ⟨?_, AAt.of (by first | exact SubH.refl | exact SubH.app | exact SubH.both (by simp [subL])) ?_⟩; · omega)
          refine AAny.one 5 6 (by kernel_rfl) (by kernel_rfl) (by kernel_rfl) ?_
          simp -dsimp -implicitDefEqProofs (disch := omega) [go_sem, -List.getD_eq_getElem?_getD, ite_yes, htp, ht, hc, hfl]
          refine ACall.of (iDryO_A n ps cp l hg 0 src hsrc [id] _ tp (H.length + 5) hP.app (Sl.nth 5 rfl rfl)) ?_
          simp -dsimp -implicitDefEqProofs (disch := omega) [go_sem, -List.getD_eq_getElem?_getD, ite_yes, htp, ht, hc, hfl]
          first | refine AAt.of (by first | exact SubH.refl | exact SubH.app | exact SubH.both (by simp [subL])) ?_ | (refine ⟨?_, AAt.of (by first | exact SubH.refl | exact SubH.app | exact SubH.both (by simp [subL])) ?_⟩; · omega)
          refine AAny.takes (fuel := 0) (by kernel_rfl) (by kernel_rfl) [7, 8, 9, 10, 11] (by kernel_rfl) (by kernel_rfl) ?_
          simp -dsimp -implicitDefEqProofs (disch := omega) [go_sem, -List.getD_eq_getElem?_getD, ite_yes, htp, ht, hc, hfl]
          refine AAny.done (by kernel_rfl) ?_
          simp -dsimp -implicitDefEqProofs (disch := omega) [go_sem, -List.getD_eq_getElem?_getD, ite_yes, htp, ht, hc, hfl]
          refine ⟨by omega, LoopEnd.of (k + 1) (by omega) (by omega) (weakS_mk [some 0, some 8, some 2, some 3] rfl ?_ (by simp -dsimp -implicitDefEqProofs (disch := omega) [go_sem, -List.getD_eq_getElem?_getD, ite_yes, htp, ht, e]))⟩
          simp -dsimp -implicitDefEqProofs (disch := omega) [go_sem, -List.getD_eq_getElem?_getD, ite_yes]
          exact ⟨wl_net htp, .inl ⟨by rw [e, List.flatMap_append]; rfl, by rw [show List.flatMap nmE (useTo n ps l src k) ++ [Value.int IntKind.i64 id] = List.flatMap nmE (useTo n ps l src (k + 1)) by rw [e, List.flatMap_append]; rfl]; exact nmE_flat _⟩, .inl ⟨rfl, nmE_flat _⟩, .inl ⟨rfl, nmE_flat _⟩⟩
        · simp -dsimp -implicitDefEqProofs (disch := omega) [go_sem, -List.getD_eq_getElem?_getD, ite_yes, htp, ht, hc, hfl]
          refine ACall.of (opened_A l (by omega) c [id] (by simp) 1 0 _ t (H.length + 4) hS.app (IdS.of (Sl.nth 4 rfl rfl))) ?_
          simp -dsimp -implicitDefEqProofs (disch := omega) [go_sem, -List.getD_eq_getElem?_getD, ite_yes, htp, ht, hc, hfl]
          first | refine AAt.of (by first | exact SubH.refl | exact SubH.app | exact SubH.both (by simp [subL])) ?_ | (refine ⟨?_, AAt.of (by first | exact SubH.refl | exact SubH.app | exact SubH.both (by simp [subL])) ?_⟩; · omega)
          refine AAny.one 6 0 (by kernel_rfl) (by kernel_rfl) (by kernel_rfl) ?_
          simp -dsimp -implicitDefEqProofs (disch := omega) [go_sem, -List.getD_eq_getElem?_getD, ite_yes, htp, ht, hc, hfl]
          first | refine AAt.of (by first | exact SubH.refl | exact SubH.app | exact SubH.both (by simp [subL])) ?_ | (refine ⟨?_, AAt.of (by first | exact SubH.refl | exact SubH.app | exact SubH.both (by simp [subL])) ?_⟩; · omega)
          refine AAny.one 5 6 (by kernel_rfl) (by kernel_rfl) (by kernel_rfl) ?_
          simp -dsimp -implicitDefEqProofs (disch := omega) [go_sem, -List.getD_eq_getElem?_getD, ite_yes, htp, ht, hc, hfl]
          refine ACall.of (iDryO_A n ps cp l hg 0 src hsrc [id] _ tp (H.length + 5) hP.app (Sl.nth 5 rfl rfl)) ?_
          simp -dsimp -implicitDefEqProofs (disch := omega) [go_sem, -List.getD_eq_getElem?_getD, ite_yes, htp, ht, hc, hfl]
          first | refine AAt.of (by first | exact SubH.refl | exact SubH.app | exact SubH.both (by simp [subL])) ?_ | (refine ⟨?_, AAt.of (by first | exact SubH.refl | exact SubH.app | exact SubH.both (by simp [subL])) ?_⟩; · omega)
          refine AAny.takes (fuel := 0) (by kernel_rfl) (by kernel_rfl) [7, 8, 9, 10, 11] (by kernel_rfl) (by kernel_rfl) ?_
          simp -dsimp -implicitDefEqProofs (disch := omega) [go_sem, -List.getD_eq_getElem?_getD, ite_yes, htp, ht, hc, hfl]
          refine AAny.done (by kernel_rfl) ?_
          simp -dsimp -implicitDefEqProofs (disch := omega) [go_sem, -List.getD_eq_getElem?_getD, ite_yes, htp, ht, hc, hfl]
          refine ⟨by omega, LoopEnd.of (k + 1) (by omega) (by omega) (weakS_mk [some 0, some 8, some 2, some 3] rfl ?_ (by simp -dsimp -implicitDefEqProofs (disch := omega) [go_sem, -List.getD_eq_getElem?_getD, ite_yes, htp, ht, e]))⟩
          simp -dsimp -implicitDefEqProofs (disch := omega) [go_sem, -List.getD_eq_getElem?_getD, ite_yes]
          exact ⟨wl_net htp, .inl ⟨by rw [e, List.flatMap_append]; rfl, by rw [show List.flatMap nmE (useTo n ps l src k) ++ [Value.int IntKind.i64 id] = List.flatMap nmE (useTo n ps l src (k + 1)) by rw [e, List.flatMap_append]; rfl]; exact nmE_flat _⟩, .inl ⟨rfl, nmE_flat _⟩, .inl ⟨rfl, nmE_flat _⟩⟩
    · rw [if_neg hc] at e
      simp -dsimp -implicitDefEqProofs (disch := omega) [go_sem, -List.getD_eq_getElem?_getD, ite_yes, hlt, htp, ht, c1, hfs]
      refine ADraw.any H (by kernel_rfl) (by first | exact SubH.refl | exact SubH.app | exact SubH.both (by simp [subL])) ?_
      refine AAny.takes (fuel := 9) (by kernel_rfl) (by kernel_rfl) [1, 2, 5] (by kernel_rfl) (by kernel_rfl) ?_
      simp -dsimp -implicitDefEqProofs (disch := omega) [go_sem, -List.getD_eq_getElem?_getD, ite_yes, htp, ht, hc, hfl]
      refine AAny.two 8 0 3 (by kernel_rfl) (by kernel_rfl) (by kernel_rfl) ?_ ?_
      · simp -dsimp -implicitDefEqProofs (disch := omega) [go_sem, -List.getD_eq_getElem?_getD, ite_yes, htp, ht, hc, hfl]
        first | refine AAt.of (by first | exact SubH.refl | exact SubH.app | exact SubH.both (by simp [subL])) ?_ | (refine ⟨?_, AAt.of (by first | exact SubH.refl | exact SubH.app | exact SubH.both (by simp [subL])) ?_⟩; · omega)
        refine AAny.one 7 3 (by kernel_rfl) (by kernel_rfl) (by kernel_rfl) ?_
        simp -dsimp -implicitDefEqProofs (disch := omega) [go_sem, -List.getD_eq_getElem?_getD, ite_yes, htp, ht, hc, hfl]
        first | refine AAt.of (by first | exact SubH.refl | exact SubH.app | exact SubH.both (by simp [subL])) ?_ | (refine ⟨?_, AAt.of (by first | exact SubH.refl | exact SubH.app | exact SubH.both (by simp [subL])) ?_⟩; · omega)
        refine AAny.one 6 4 (by kernel_rfl) (by kernel_rfl) (by kernel_rfl) ?_
        simp -dsimp -implicitDefEqProofs (disch := omega) [go_sem, -List.getD_eq_getElem?_getD, ite_yes, htp, ht, hc, hfl]
        refine ACall.of (opened_A l (by omega) c [id] (by simp) 1 0 _ t (H.length + 4) hS.app (IdS.of (Sl.nth 4 rfl rfl))) ?_
        simp -dsimp -implicitDefEqProofs (disch := omega) [go_sem, -List.getD_eq_getElem?_getD, ite_yes, htp, ht, hc, hfl]
        first | refine AAt.of (by first | exact SubH.refl | exact SubH.app | exact SubH.both (by simp [subL])) ?_ | (refine ⟨?_, AAt.of (by first | exact SubH.refl | exact SubH.app | exact SubH.both (by simp [subL])) ?_⟩; · omega)
        refine AAny.one 5 6 (by kernel_rfl) (by kernel_rfl) (by kernel_rfl) ?_
        simp -dsimp -implicitDefEqProofs (disch := omega) [go_sem, -List.getD_eq_getElem?_getD, ite_yes, htp, ht, hc, hfl]
        refine ACall.of (iDryO_A n ps cp l hg 0 src hsrc [id] _ tp (H.length + 5) hP.app (Sl.nth 5 rfl rfl)) ?_
        simp -dsimp -implicitDefEqProofs (disch := omega) [go_sem, -List.getD_eq_getElem?_getD, ite_yes, htp, ht, hc, hfl]
        first | refine AAt.of (by first | exact SubH.refl | exact SubH.app | exact SubH.both (by simp [subL])) ?_ | (refine ⟨?_, AAt.of (by first | exact SubH.refl | exact SubH.app | exact SubH.both (by simp [subL])) ?_⟩; · omega)
        refine AAny.takes (fuel := 0) (by kernel_rfl) (by kernel_rfl) [7, 8, 9, 10, 11] (by kernel_rfl) (by kernel_rfl) ?_
        simp -dsimp -implicitDefEqProofs (disch := omega) [go_sem, -List.getD_eq_getElem?_getD, ite_yes, htp, ht, hc, hfl]
        refine AAny.done (by kernel_rfl) ?_
        simp -dsimp -implicitDefEqProofs (disch := omega) [go_sem, -List.getD_eq_getElem?_getD, ite_yes, htp, ht, hc, hfl]
        refine LoopEnd.of (k + 1) (by omega) (by omega) (weakS_mk [some 0, some 1, some 2, some 3] rfl ?_ (by simp -dsimp -implicitDefEqProofs (disch := omega) [go_sem, -List.getD_eq_getElem?_getD, ite_yes, htp, ht, e]))
        simp -dsimp -implicitDefEqProofs (disch := omega) [go_sem, -List.getD_eq_getElem?_getD, ite_yes]
        exact ⟨wl_net htp, .inl ⟨by rw [e], nmE_flat _⟩, .inl ⟨rfl, nmE_flat _⟩, .inl ⟨rfl, nmE_flat _⟩⟩
      · simp -dsimp -implicitDefEqProofs (disch := omega) [go_sem, -List.getD_eq_getElem?_getD, ite_yes, htp, ht, hc, hfl]
        first | refine AAt.of (by first | exact SubH.refl | exact SubH.app | exact SubH.both (by simp [subL])) ?_ | (refine ⟨?_, AAt.of (by first | exact SubH.refl | exact SubH.app | exact SubH.both (by simp [subL])) ?_⟩; · omega)
        refine AAny.two 7 0 4 (by kernel_rfl) (by kernel_rfl) (by kernel_rfl) ?_ ?_
        · simp -dsimp -implicitDefEqProofs (disch := omega) [go_sem, -List.getD_eq_getElem?_getD, ite_yes, htp, ht, hc, hfl]
          first | refine AAt.of (by first | exact SubH.refl | exact SubH.app | exact SubH.both (by simp [subL])) ?_ | (refine ⟨?_, AAt.of (by first | exact SubH.refl | exact SubH.app | exact SubH.both (by simp [subL])) ?_⟩; · omega)
          refine AAny.one 6 4 (by kernel_rfl) (by kernel_rfl) (by kernel_rfl) ?_
          simp -dsimp -implicitDefEqProofs (disch := omega) [go_sem, -List.getD_eq_getElem?_getD, ite_yes, htp, ht, hc, hfl]
          refine ACall.of (opened_A l (by omega) c [id] (by simp) 1 0 _ t (H.length + 4) hS.app (IdS.of (Sl.nth 4 rfl rfl))) ?_
          simp -dsimp -implicitDefEqProofs (disch := omega) [go_sem, -List.getD_eq_getElem?_getD, ite_yes, htp, ht, hc, hfl]
          first | refine AAt.of (by first | exact SubH.refl | exact SubH.app | exact SubH.both (by simp [subL])) ?_ | (refine ⟨?_, AAt.of (by first | exact SubH.refl | exact SubH.app | exact SubH.both (by simp [subL])) ?_⟩; · omega)
          refine AAny.one 5 6 (by kernel_rfl) (by kernel_rfl) (by kernel_rfl) ?_
          simp -dsimp -implicitDefEqProofs (disch := omega) [go_sem, -List.getD_eq_getElem?_getD, ite_yes, htp, ht, hc, hfl]
          refine ACall.of (iDryO_A n ps cp l hg 0 src hsrc [id] _ tp (H.length + 5) hP.app (Sl.nth 5 rfl rfl)) ?_
          simp -dsimp -implicitDefEqProofs (disch := omega) [go_sem, -List.getD_eq_getElem?_getD, ite_yes, htp, ht, hc, hfl]
          first | refine AAt.of (by first | exact SubH.refl | exact SubH.app | exact SubH.both (by simp [subL])) ?_ | (refine ⟨?_, AAt.of (by first | exact SubH.refl | exact SubH.app | exact SubH.both (by simp [subL])) ?_⟩; · omega)
          refine AAny.takes (fuel := 0) (by kernel_rfl) (by kernel_rfl) [7, 8, 9, 10, 11] (by kernel_rfl) (by kernel_rfl) ?_
          simp -dsimp -implicitDefEqProofs (disch := omega) [go_sem, -List.getD_eq_getElem?_getD, ite_yes, htp, ht, hc, hfl]
          refine AAny.done (by kernel_rfl) ?_
          simp -dsimp -implicitDefEqProofs (disch := omega) [go_sem, -List.getD_eq_getElem?_getD, ite_yes, htp, ht, hc, hfl]
          refine LoopEnd.of (k + 1) (by omega) (by omega) (weakS_mk [some 0, some 1, some 2, some 3] rfl ?_ (by simp -dsimp -implicitDefEqProofs (disch := omega) [go_sem, -List.getD_eq_getElem?_getD, ite_yes, htp, ht, e]))
          simp -dsimp -implicitDefEqProofs (disch := omega) [go_sem, -List.getD_eq_getElem?_getD, ite_yes]
          exact ⟨wl_net htp, .inl ⟨by rw [e], nmE_flat _⟩, .inl ⟨rfl, nmE_flat _⟩, .inl ⟨rfl, nmE_flat _⟩⟩
        · simp -dsimp -implicitDefEqProofs (disch := omega) [go_sem, -List.getD_eq_getElem?_getD, ite_yes, htp, ht, hc, hfl]
          refine ACall.of (opened_A l (by omega) c [id] (by simp) 1 0 _ t (H.length + 4) hS.app (IdS.of (Sl.nth 4 rfl rfl))) ?_
          simp -dsimp -implicitDefEqProofs (disch := omega) [go_sem, -List.getD_eq_getElem?_getD, ite_yes, htp, ht, hc, hfl]
          first | refine AAt.of (by first | exact SubH.refl | exact SubH.app | exact SubH.both (by simp [subL])) ?_ | (refine ⟨?_, AAt.of (by first | exact SubH.refl | exact SubH.app | exact SubH.both (by simp [subL])) ?_⟩; · omega)
          refine AAny.one 6 0 (by kernel_rfl) (by kernel_rfl) (by kernel_rfl) ?_
          simp -dsimp -implicitDefEqProofs (disch := omega) [go_sem, -List.getD_eq_getElem?_getD, ite_yes, htp, ht, hc, hfl]
          first | refine AAt.of (by first | exact SubH.refl | exact SubH.app | exact SubH.both (by simp [subL])) ?_ | (refine ⟨?_, AAt.of (by first | exact SubH.refl | exact SubH.app | exact SubH.both (by simp [subL])) ?_⟩; · omega)
          refine AAny.one 5 6 (by kernel_rfl) (by kernel_rfl) (by kernel_rfl) ?_
          simp -dsimp -implicitDefEqProofs (disch := omega) [go_sem, -List.getD_eq_getElem?_getD, ite_yes, htp, ht, hc, hfl]
          refine ACall.of (iDryO_A n ps cp l hg 0 src hsrc [id] _ tp (H.length + 5) hP.app (Sl.nth 5 rfl rfl)) ?_
          simp -dsimp -implicitDefEqProofs (disch := omega) [go_sem, -List.getD_eq_getElem?_getD, ite_yes, htp, ht, hc, hfl]
          first | refine AAt.of (by first | exact SubH.refl | exact SubH.app | exact SubH.both (by simp [subL])) ?_ | (refine ⟨?_, AAt.of (by first | exact SubH.refl | exact SubH.app | exact SubH.both (by simp [subL])) ?_⟩; · omega)
          refine AAny.takes (fuel := 0) (by kernel_rfl) (by kernel_rfl) [7, 8, 9, 10, 11] (by kernel_rfl) (by kernel_rfl) ?_
          simp -dsimp -implicitDefEqProofs (disch := omega) [go_sem, -List.getD_eq_getElem?_getD, ite_yes, htp, ht, hc, hfl]
          refine AAny.done (by kernel_rfl) ?_
          simp -dsimp -implicitDefEqProofs (disch := omega) [go_sem, -List.getD_eq_getElem?_getD, ite_yes, htp, ht, hc, hfl]
          refine LoopEnd.of (k + 1) (by omega) (by omega) (weakS_mk [some 0, some 1, some 2, some 3] rfl ?_ (by simp -dsimp -implicitDefEqProofs (disch := omega) [go_sem, -List.getD_eq_getElem?_getD, ite_yes, htp, ht, e]))
          simp -dsimp -implicitDefEqProofs (disch := omega) [go_sem, -List.getD_eq_getElem?_getD, ite_yes]
          exact ⟨wl_net htp, .inl ⟨by rw [e], nmE_flat _⟩, .inl ⟨rfl, nmE_flat _⟩, .inl ⟨rfl, nmE_flat _⟩⟩
  · obtain rfl : k = (shutL l).length := by omega
    simp -dsimp -implicitDefEqProofs (disch := omega) [go_sem, -List.getD_eq_getElem?_getD, ite_yes, hlt]
    refine fin_list [some 1] rfl ?_ (by simp -dsimp -implicitDefEqProofs (disch := omega) [go_sem, -List.getD_eq_getElem?_getD, ite_yes, useL])
    simp -dsimp -implicitDefEqProofs (disch := omega) [go_sem, -List.getD_eq_getElem?_getD, ite_yes, useL]
    exact .inl ⟨rfl, nmE_flat _⟩
theorem iUseful_bad (n : Int) (ps : List Pp) (hps : ps.length ≤ 1048577) (cp : Nat) (l : List Vl) (hl : l.length ≤ 1048577) (c : Nat) (src : Int) (hq : askR n ps l src = false) (H : Heap) (tp t : Nat) (hP : Sl ppE H tp ps) (hS : Sl vlE H t l) :
    AFunC Try.prog 25 [netV n tp ps.length cp, .slice (some ⟨t, 0, none⟩) l.length c, .int .i64 src] H (.tuple #[.slice none 0 0, .bool false]) H := by
  refine AFunC.of_body Try.func25 (by kernel_rfl) rfl (by kernel_rfl) (by simp [Try.ntmps25]) ?_
  have htp := hP.lt
  have ht := hS.lt
  simp -dsimp -implicitDefEqProofs (disch := omega) [go_sem, -List.getD_eq_getElem?_getD, ite_yes, htp, ht]
  refine ACall.of (canReopen_A n ps hps cp l hl c src _ tp t hP.app hS.app) ?_
  simp -dsimp -implicitDefEqProofs (disch := omega) [go_sem, -List.getD_eq_getElem?_getD, ite_yes, hq, htp, ht]
  exact fin_flat rfl rfl
theorem sUseful_bad (n : Int) (ps : List Pp) (hps : ps.length ≤ 1048577) (cp : Nat) (l : List Vl) (hl : l.length ≤ 1048577) (c : Nat) (src : Int) (hq : askR n ps l src = false) (H : Heap) (tp t : Nat) (hP : Sl ppE H tp ps) (hS : Sl vlE H t l) :
    AFunC Try.prog 24 [netV n tp ps.length cp, .slice (some ⟨t, 0, none⟩) l.length c, .int .i64 src] H (.tuple #[.slice (some ⟨H.length, 0, none⟩) 0 0, .bool false]) (H ++ [some ⟨[], true, 3, 1⟩]) := by
  refine AFunC.of_body Try.func24 (by kernel_rfl) rfl (by kernel_rfl) (by simp [Try.ntmps24]) ?_
  have htp := hP.lt
  have ht := hS.lt
  simp -dsimp -implicitDefEqProofs (disch := omega) [go_sem, -List.getD_eq_getElem?_getD, ite_yes, htp, ht]
  refine ACall.of (l18Asked_A n ps hps cp l hl c src _ tp t hP.app hS.app) ?_
  simp -dsimp -implicitDefEqProofs (disch := omega) [go_sem, -List.getD_eq_getElem?_getD, ite_yes, hq, htp, ht]
  refine fin_list [some 1] rfl ?_ (by simp -dsimp -implicitDefEqProofs (disch := omega) [go_sem, -List.getD_eq_getElem?_getD, ite_yes])
  simp -dsimp -implicitDefEqProofs (disch := omega) [go_sem, -List.getD_eq_getElem?_getD, ite_yes]
  exact .inl ⟨rfl, rfl⟩
theorem sUseful_good (n : Int) (ps : List Pp) (cp : Nat) (l : List Vl) (c : Nat) (src : Int) (hq : askR n ps l src = true) (H : Heap) (tp t : Nat) (hP : Sl ppE H tp ps) (hS : Sl vlE H t l) :
    AFunC Try.prog 24 [netV n tp ps.length cp, .slice (some ⟨t, 0, none⟩) l.length c, .int .i64 src] H (.tuple #[.slice (some ⟨H.length, 0, none⟩) (useL n ps l src).length 0, .bool true]) (H ++ [some ⟨(useL n ps l src).flatMap nmE, true, 3, 1⟩]) := by
  refine AFunC.of_body Try.func24 (by kernel_rfl) rfl (by kernel_rfl) (by simp [Try.ntmps24]) ?_
  have htp := hP.lt
  have ht := hS.lt
  obtain ⟨hg, hN, hl, hsrc, hs6⟩ := askR_at hq
  have hpl := hN.f_len
  have hn := hN.f_n
  simp -dsimp -implicitDefEqProofs (disch := omega) [go_sem, -List.getD_eq_getElem?_getD, ite_yes, htp, ht]
  refine ACall.of (l18Asked_A n ps (by omega) cp l (by omega) c src _ tp t hP.app hS.app) ?_
  simp -dsimp -implicitDefEqProofs (disch := omega) [go_sem, -List.getD_eq_getElem?_getD, ite_yes, hq, htp, ht]
  refine ACall.of (l18Shut_A l (by omega) c _ t hS.app) ?_
  simp -dsimp -implicitDefEqProofs (disch := omega) [go_sem, -List.getD_eq_getElem?_getD, ite_yes, htp, ht]
  have hbl := dryO_length n ps l src []
  generalize hB : dryO n ps l src [] = B at *
  refine ALoop.intro (ι := Nat) (fun k => k ≤ (shutL l).length) (fun k => [(1, .slice (some ⟨t, 0, none⟩) l.length c), (2, .int .i64 src), (3, .pointer (some ⟨H.length, 0, none⟩)), (8, .slice (some ⟨H.length + 1, 0, none⟩) (useTo n ps l src k).length 0), (9, .slice (some ⟨H.length + 2, 0, none⟩) (shutL l).length 0), (10, .int .i64 k)])
    (fun k => H ++ [some ⟨[.int .i64 n, .slice (some ⟨tp, 0, none⟩) ps.length cp], true, 33, 1⟩, some ⟨(useTo n ps l src k).flatMap nmE, true, 3, 1⟩, some ⟨(shutL l).flatMap nmE, true, 3, 1⟩]) (fun k => (shutL l).length - k) 0 (by omega) ?_ ?_
  · refine weakS_mk [some 0, some 1, some 2] rfl ?_ (by simp -dsimp -implicitDefEqProofs (disch := omega) [go_sem, -List.getD_eq_getElem?_getD, ite_yes, htp, ht, useTo])
    simp -dsimp -implicitDefEqProofs (disch := omega) [go_sem, -List.getD_eq_getElem?_getD, ite_yes, useTo]
    exact ⟨wl_net htp, .inl ⟨rfl, rfl⟩, .inl ⟨rfl, nmE_flat _⟩⟩
  intro k hk
  have hul := useTo_length n ps l src k
  have hfl : ((useTo n ps l src k).flatMap nmE).length = (useTo n ps l src k).length := by rw [nmE_length]; omega
  by_cases hlt : k < (shutL l).length
  · have e : useTo n ps l src (k + 1) = if (dryO n ps l src [(shutL l).getD k 0]).length < (dryO n ps l src []).length then useTo n ps l src k ++ [(shutL l).getD k 0] else useTo n ps l src k := rfl
    rw [hB] at e
    have c1 := nm_cell1 (shutL l) hlt
    have hfs : ((shutL l).flatMap nmE).length = (shutL l).length := by rw [nmE_length]; omega
    have hids : ∀ L : Heap, IdS (H ++ some ⟨[.int .i64 n, .slice (some ⟨tp, 0, none⟩) ps.length cp], true, 33, 1⟩ :: some ⟨(useTo n ps l src k).flatMap nmE, true, 3, 1⟩ :: some ⟨(shutL l).flatMap nmE, true, 3, 1⟩ :: L) (H.length + 2) k [(shutL l).getD k 0] := by
      intro L
      refine ⟨by simp, fun j hj => ?_⟩
      obtain rfl : j = 0 := by simpa using hj
      have hk1 : k + 1 ≤ (shutL l).length := by omega
      simp [aCells_atj, Heap.get_cons, aC1, hfs, hk1, c1]
    generalize (shutL l).getD k 0 = id at *
    have hdl := dryO_length n ps l src [id]
    by_cases hc : (dryO n ps l src [id]).length < B.length
    · rw [if_pos hc] at e
      simp -dsimp -implicitDefEqProofs (disch := omega) [go_sem, -List.getD_eq_getElem?_getD, ite_yes, hlt, htp, ht, c1, hfs]
      refine ADraw.mid ([(42, .bool true), (1, .slice (some ⟨t, 0, none⟩) l.length c), (2, .int .i64 src), (3, .pointer (some ⟨H.length, 0, none⟩)), (8, .slice (some ⟨H.length + 1, 0, none⟩) (useTo n ps l src k).length 0), (9, .slice (some ⟨H.length + 2, 0, none⟩) (shutL l).length 0), (10, .int .i64 k)]) (H ++ [some ⟨[.int .i64 n, .slice (some ⟨tp, 0, none⟩) ps.length cp], true, 33, 1⟩, some ⟨(useTo n ps l src k).flatMap nmE, true, 3, 1⟩, some ⟨(shutL l).flatMap nmE, true, 3, 1⟩]) ?_ ?_
      · skip
        refine ADraw.any (H ++ [none, none, some ⟨(shutL l).flatMap nmE, true, 3, 1⟩]) (by kernel_rfl) (by first | exact SubH.refl | exact SubH.app | exact SubH.both (by simp [subL])) ?_
        refine AAny.takes (fuel := 8) (by kernel_rfl) (by kernel_rfl) [1, 2, 3, 4, 5, 6, 7, 11, 12] (by kernel_rfl) (by kernel_rfl) ?_
        simp -dsimp -implicitDefEqProofs (disch := omega) [go_sem, -List.getD_eq_getElem?_getD, ite_yes, htp, ht, hc, hfl, hlt]
        refine AAny.three 7 0 10 13 (by kernel_rfl) (by kernel_rfl) (by kernel_rfl) ?_ ?_ ?_
        · simp -dsimp -implicitDefEqProofs (disch := omega) [go_sem, -List.getD_eq_getElem?_getD, ite_yes, htp, ht, hc, hfl, hlt]
          first | refine AAt.of (by first | exact SubH.refl | exact SubH.app | exact SubH.both (by simp [subL])) ?_ | (refine ⟨?_, AAt.of (by first | exact SubH.refl | exact SubH.app | exact SubH.both (by simp [subL])) ?_⟩; · omega)
          refine AAny.three 6 8 10 13 (by kernel_rfl) (by kernel_rfl) (by kernel_rfl) ?_ ?_ ?_
          · simp -dsimp -implicitDefEqProofs (disch := omega) [go_sem, -List.getD_eq_getElem?_getD, ite_yes, htp, ht, hc, hfl, hlt]
            refine ACall.of (l18Dry_A n ps hN cp l (by omega) c src hsrc [id] (by simp) 1 k _ tp t (H.length + 2) hP.app hS.app (hids _)) ?_
            simp -dsimp -implicitDefEqProofs (disch := omega) [go_sem, -List.getD_eq_getElem?_getD, ite_yes, htp, ht, hc, hfl, hlt]
            first | refine AAt.of (by first | exact SubH.refl | exact SubH.app | exact SubH.both (by simp [subL])) ?_ | (refine ⟨?_, AAt.of (by first | exact SubH.refl | exact SubH.app | exact SubH.both (by simp [subL])) ?_⟩; · omega)
            refine AAny.takes (fuel := 5) (by kernel_rfl) (by kernel_rfl) [9] (by kernel_rfl) (by kernel_rfl) ?_
            simp -dsimp -implicitDefEqProofs (disch := omega) [go_sem, -List.getD_eq_getElem?_getD, ite_yes, htp, ht, hc, hfl, hlt]
            refine AAny.two 4 10 13 (by kernel_rfl) (by kernel_rfl) (by kernel_rfl) ?_ ?_
            · simp -dsimp -implicitDefEqProofs (disch := omega) [go_sem, -List.getD_eq_getElem?_getD, ite_yes, htp, ht, hc, hfl, hlt]
              first | refine AAt.of (by first | exact SubH.refl | exact SubH.app | exact SubH.both (by simp [subL])) ?_ | (refine ⟨?_, AAt.of (by first | exact SubH.refl | exact SubH.app | exact SubH.both (by simp [subL])) ?_⟩; · omega)
              refine AAny.one 3 13 (by kernel_rfl) (by kernel_rfl) (by kernel_rfl) ?_
              simp -dsimp -implicitDefEqProofs (disch := omega) [go_sem, -List.getD_eq_getElem?_getD, ite_yes, htp, ht, hc, hfl, hlt]
              first | refine AAt.of (by first | exact SubH.refl | exact SubH.app | exact SubH.both (by simp [subL])) ?_ | (refine ⟨?_, AAt.of (by first | exact SubH.refl | exact SubH.app | exact SubH.both (by simp [subL])) ?_⟩; · omega)
              refine AAny.one 2 14 (by kernel_rfl) (by kernel_rfl) (by kernel_rfl) ?_
              simp -dsimp -implicitDefEqProofs (disch := omega) [go_sem, -List.getD_eq_getElem?_getD, ite_yes, htp, ht, hc, hfl, hlt]
              first | refine ACall.of (hB ▸ l18Dry_A n ps hN cp l (by omega) c src hsrc [] (by simp) 0 0 _ tp t (H.length + 4) hP.app hS.app (IdS.of (Sl.nth 4 rfl rfl))) ?_ | refine ACall.of (hB ▸ l18Dry_A n ps hN cp l (by omega) c src hsrc [] (by simp) 0 0 _ tp t (H.length + 3) hP.app hS.app (IdS.of (Sl.nth 3 rfl rfl))) ?_
              simp -dsimp -implicitDefEqProofs (disch := omega) [go_sem, -List.getD_eq_getElem?_getD, ite_yes, htp, ht, hc, hfl, hlt]
              first | refine AAt.of (by first | exact SubH.refl | exact SubH.app | exact SubH.both (by simp [subL])) ?_ | (refine ⟨?_, AAt.of (by first | exact SubH.refl | exact SubH.app | exact SubH.both (by simp [subL])) ?_⟩; · omega)
              refine AAny.takes (fuel := 0) (by kernel_rfl) (by kernel_rfl) [15, 16] (by kernel_rfl) (by kernel_rfl) ?_
              simp -dsimp -implicitDefEqProofs (disch := omega) [go_sem, -List.getD_eq_getElem?_getD, ite_yes, htp, ht, hc, hfl, hlt]
              refine AAny.done (by kernel_rfl) ?_
              simp -dsimp -implicitDefEqProofs (disch := omega) [go_sem, -List.getD_eq_getElem?_getD, ite_yes, htp, ht, hc, hfl, hlt]
              exact ⟨weakS_mk [some 0, some 1, some 2] rfl (by simp -dsimp -implicitDefEqProofs (disch := omega) [go_sem, -List.getD_eq_getElem?_getD, ite_yes]; exact ⟨wl_net htp, .inl ⟨rfl, nmE_flat _⟩, .inl ⟨rfl, nmE_flat _⟩⟩) (by simp -dsimp -implicitDefEqProofs (disch := omega) [go_sem, -List.getD_eq_getElem?_getD, ite_yes, htp, ht])⟩
            · simp -dsimp -implicitDefEqProofs (disch := omega) [go_sem, -List.getD_eq_getElem?_getD, ite_yes, htp, ht, hc, hfl, hlt]
              first | refine AAt.of (by first | exact SubH.refl | exact SubH.app | exact SubH.both (by simp [subL])) ?_ | (refine ⟨?_, AAt.of (by first | exact SubH.refl | exact SubH.app | exact SubH.both (by simp [subL])) ?_⟩; · omega)
              refine AAny.one 3 10 (by kernel_rfl) (by kernel_rfl) (by kernel_rfl) ?_
              simp -dsimp -implicitDefEqProofs (disch := omega) [go_sem, -List.getD_eq_getElem?_getD, ite_yes, htp, ht, hc, hfl, hlt]
              first | refine AAt.of (by first | exact SubH.refl | exact SubH.app | exact SubH.both (by simp [subL])) ?_ | (refine ⟨?_, AAt.of (by first | exact SubH.refl | exact SubH.app | exact SubH.both (by simp [subL])) ?_⟩; · omega)
              refine AAny.one 2 14 (by kernel_rfl) (by kernel_rfl) (by kernel_rfl) ?_
              simp -dsimp -implicitDefEqProofs (disch := omega) [go_sem, -List.getD_eq_getElem?_getD, ite_yes, htp, ht, hc, hfl, hlt]
              first | refine ACall.of (hB ▸ l18Dry_A n ps hN cp l (by omega) c src hsrc [] (by simp) 0 0 _ tp t (H.length + 4) hP.app hS.app (IdS.of (Sl.nth 4 rfl rfl))) ?_ | refine ACall.of (hB ▸ l18Dry_A n ps hN cp l (by omega) c src hsrc [] (by simp) 0 0 _ tp t (H.length + 3) hP.app hS.app (IdS.of (Sl.nth 3 rfl rfl))) ?_
              simp -dsimp -implicitDefEqProofs (disch := omega) [go_sem, -List.getD_eq_getElem?_getD, ite_yes, htp, ht, hc, hfl, hlt]
              first | refine AAt.of (by first | exact SubH.refl | exact SubH.app | exact SubH.both (by simp [subL])) ?_ | (refine ⟨?_, AAt.of (by first | exact SubH.refl | exact SubH.app | exact SubH.both (by simp [subL])) ?_⟩; · omega)
              refine AAny.takes (fuel := 0) (by kernel_rfl) (by kernel_rfl) [15, 16] (by kernel_rfl) (by kernel_rfl) ?_
              simp -dsimp -implicitDefEqProofs (disch := omega) [go_sem, -List.getD_eq_getElem?_getD, ite_yes, htp, ht, hc, hfl, hlt]
              refine AAny.done (by kernel_rfl) ?_
              simp -dsimp -implicitDefEqProofs (disch := omega) [go_sem, -List.getD_eq_getElem?_getD, ite_yes, htp, ht, hc, hfl, hlt]
              exact ⟨weakS_mk [some 0, some 1, some 2] rfl (by simp -dsimp -implicitDefEqProofs (disch := omega) [go_sem, -List.getD_eq_getElem?_getD, ite_yes]; exact ⟨wl_net htp, .inl ⟨rfl, nmE_flat _⟩, .inl ⟨rfl, nmE_flat _⟩⟩) (by simp -dsimp -implicitDefEqProofs (disch := omega) [go_sem, -List.getD_eq_getElem?_getD, ite_yes, htp, ht])⟩
          · simp -dsimp -implicitDefEqProofs (disch := omega) [go_sem, -List.getD_eq_getElem?_getD, ite_yes, htp, ht, hc, hfl, hlt]
            first | refine AAt.of (by first | exact SubH.refl | exact SubH.app | exact SubH.both (by simp [subL])) ?_ | (refine ⟨?_, AAt.of (by first | exact SubH.refl | exact SubH.app | exact SubH.both (by simp [subL])) ?_⟩; · omega)
            refine AAny.two 5 8 13 (by kernel_rfl) (by kernel_rfl) (by kernel_rfl) ?_ ?_
            · simp -dsimp -implicitDefEqProofs (disch := omega) [go_sem, -List.getD_eq_getElem?_getD, ite_yes, htp, ht, hc, hfl, hlt]
              refine ACall.of (l18Dry_A n ps hN cp l (by omega) c src hsrc [id] (by simp) 1 k _ tp t (H.length + 2) hP.app hS.app (hids _)) ?_
              simp -dsimp -implicitDefEqProofs (disch := omega) [go_sem, -List.getD_eq_getElem?_getD, ite_yes, htp, ht, hc, hfl, hlt]
              first | refine AAt.of (by first | exact SubH.refl | exact SubH.app | exact SubH.both (by simp [subL])) ?_ | (refine ⟨?_, AAt.of (by first | exact SubH.refl | exact SubH.app | exact SubH.both (by simp [subL])) ?_⟩; · omega)
              refine AAny.takes (fuel := 4) (by kernel_rfl) (by kernel_rfl) [9] (by kernel_rfl) (by kernel_rfl) ?_
              simp -dsimp -implicitDefEqProofs (disch := omega) [go_sem, -List.getD_eq_getElem?_getD, ite_yes, htp, ht, hc, hfl, hlt]
              refine AAny.one 3 13 (by kernel_rfl) (by kernel_rfl) (by kernel_rfl) ?_
              simp -dsimp -implicitDefEqProofs (disch := omega) [go_sem, -List.getD_eq_getElem?_getD, ite_yes, htp, ht, hc, hfl, hlt]
              first | refine AAt.of (by first | exact SubH.refl | exact SubH.app | exact SubH.both (by simp [subL])) ?_ | (refine ⟨?_, AAt.of (by first | exact SubH.refl | exact SubH.app | exact SubH.both (by simp [subL])) ?_⟩; · omega)
              refine AAny.one 2 14 (by kernel_rfl) (by kernel_rfl) (by kernel_rfl) ?_
              simp -dsimp -implicitDefEqProofs (disch := omega) [go_sem, -List.getD_eq_getElem?_getD, ite_yes, htp, ht, hc, hfl, hlt]
              first | refine ACall.of (hB ▸ l18Dry_A n ps hN cp l (by omega) c src hsrc [] (by simp) 0 0 _ tp t (H.length + 4) hP.app hS.app (IdS.of (Sl.nth 4 rfl rfl))) ?_ | refine ACall.of (hB ▸ l18Dry_A n ps hN cp l (by omega) c src hsrc [] (by simp) 0 0 _ tp t (H.length + 3) hP.app hS.app (IdS.of (Sl.nth 3 rfl rfl))) ?_
              simp -dsimp -implicitDefEqProofs (disch := omega) [go_sem, -List.getD_eq_getElem?_getD, ite_yes, htp, ht, hc, hfl, hlt]
              first | refine AAt.of (by first | exact SubH.refl | exact SubH.app | exact SubH.both (by simp [subL])) ?_ | (refine ⟨?_, AAt.of (by first | exact SubH.refl | exact SubH.app | exact SubH.both (by simp [subL])) ?_⟩; · omega)
              refine AAny.takes (fuel := 0) (by kernel_rfl) (by kernel_rfl) [15, 16] (by kernel_rfl) (by kernel_rfl) ?_
              simp -dsimp -implicitDefEqProofs (disch := omega) [go_sem, -List.getD_eq_getElem?_getD, ite_yes, htp, ht, hc, hfl, hlt]
              refine AAny.done (by kernel_rfl) ?_
              simp -dsimp -implicitDefEqProofs (disch := omega) [go_sem, -List.getD_eq_getElem?_getD, ite_yes, htp, ht, hc, hfl, hlt]
              exact ⟨weakS_mk [some 0, some 1, some 2] rfl (by simp -dsimp -implicitDefEqProofs (disch := omega) [go_sem, -List.getD_eq_getElem?_getD, ite_yes]; exact ⟨wl_net htp, .inl ⟨rfl, nmE_flat _⟩, .inl ⟨rfl, nmE_flat _⟩⟩) (by simp -dsimp -implicitDefEqProofs (disch := omega) [go_sem, -List.getD_eq_getElem?_getD, ite_yes, htp, ht])⟩
            · simp -dsimp -implicitDefEqProofs (disch := omega) [go_sem, -List.getD_eq_getElem?_getD, ite_yes, htp, ht, hc, hfl, hlt]
              first | refine AAt.of (by first | exact SubH.refl | exact SubH.app | exact SubH.both (by simp [subL])) ?_ | (refine ⟨?_, AAt.of (by first | exact SubH.refl | exact SubH.app | exact SubH.both (by simp [subL])) ?_⟩; · omega)
              refine AAny.one 4 8 (by kernel_rfl) (by kernel_rfl) (by kernel_rfl) ?_
              simp -dsimp -implicitDefEqProofs (disch := omega) [go_sem, -List.getD_eq_getElem?_getD, ite_yes, htp, ht, hc, hfl, hlt]
              refine ACall.of (l18Dry_A n ps hN cp l (by omega) c src hsrc [id] (by simp) 1 k _ tp t (H.length + 2) hP.app hS.app (hids _)) ?_
              simp -dsimp -implicitDefEqProofs (disch := omega) [go_sem, -List.getD_eq_getElem?_getD, ite_yes, htp, ht, hc, hfl, hlt]
              first | refine AAt.of (by first | exact SubH.refl | exact SubH.app | exact SubH.both (by simp [subL])) ?_ | (refine ⟨?_, AAt.of (by first | exact SubH.refl | exact SubH.app | exact SubH.both (by simp [subL])) ?_⟩; · omega)
              refine AAny.takes (fuel := 3) (by kernel_rfl) (by kernel_rfl) [9] (by kernel_rfl) (by kernel_rfl) ?_
              simp -dsimp -implicitDefEqProofs (disch := omega) [go_sem, -List.getD_eq_getElem?_getD, ite_yes, htp, ht, hc, hfl, hlt]
              refine AAny.one 2 14 (by kernel_rfl) (by kernel_rfl) (by kernel_rfl) ?_
              simp -dsimp -implicitDefEqProofs (disch := omega) [go_sem, -List.getD_eq_getElem?_getD, ite_yes, htp, ht, hc, hfl, hlt]
              first | refine ACall.of (hB ▸ l18Dry_A n ps hN cp l (by omega) c src hsrc [] (by simp) 0 0 _ tp t (H.length + 4) hP.app hS.app (IdS.of (Sl.nth 4 rfl rfl))) ?_ | refine ACall.of (hB ▸ l18Dry_A n ps hN cp l (by omega) c src hsrc [] (by simp) 0 0 _ tp t (H.length + 3) hP.app hS.app (IdS.of (Sl.nth 3 rfl rfl))) ?_
              simp -dsimp -implicitDefEqProofs (disch := omega) [go_sem, -List.getD_eq_getElem?_getD, ite_yes, htp, ht, hc, hfl, hlt]
              first | refine AAt.of (by first | exact SubH.refl | exact SubH.app | exact SubH.both (by simp [subL])) ?_ | (refine ⟨?_, AAt.of (by first | exact SubH.refl | exact SubH.app | exact SubH.both (by simp [subL])) ?_⟩; · omega)
              refine AAny.takes (fuel := 0) (by kernel_rfl) (by kernel_rfl) [15, 16] (by kernel_rfl) (by kernel_rfl) ?_
              simp -dsimp -implicitDefEqProofs (disch := omega) [go_sem, -List.getD_eq_getElem?_getD, ite_yes, htp, ht, hc, hfl, hlt]
              refine AAny.done (by kernel_rfl) ?_
              simp -dsimp -implicitDefEqProofs (disch := omega) [go_sem, -List.getD_eq_getElem?_getD, ite_yes, htp, ht, hc, hfl, hlt]
              exact ⟨weakS_mk [some 0, some 1, some 2] rfl (by simp -dsimp -implicitDefEqProofs (disch := omega) [go_sem, -List.getD_eq_getElem?_getD, ite_yes]; exact ⟨wl_net htp, .inl ⟨rfl, nmE_flat _⟩, .inl ⟨rfl, nmE_flat _⟩⟩) (by simp -dsimp -implicitDefEqProofs (disch := omega) [go_sem, -List.getD_eq_getElem?_getD, ite_yes, htp, ht])⟩
          · simp -dsimp -implicitDefEqProofs (disch := omega) [go_sem, -List.getD_eq_getElem?_getD, ite_yes, htp, ht, hc, hfl, hlt]
            first | refine AAt.of (by first | exact SubH.refl | exact SubH.app | exact SubH.both (by simp [subL])) ?_ | (refine ⟨?_, AAt.of (by first | exact SubH.refl | exact SubH.app | exact SubH.both (by simp [subL])) ?_⟩; · omega)
            refine AAny.two 5 8 10 (by kernel_rfl) (by kernel_rfl) (by kernel_rfl) ?_ ?_
            · simp -dsimp -implicitDefEqProofs (disch := omega) [go_sem, -List.getD_eq_getElem?_getD, ite_yes, htp, ht, hc, hfl, hlt]
              refine ACall.of (l18Dry_A n ps hN cp l (by omega) c src hsrc [id] (by simp) 1 k _ tp t (H.length + 2) hP.app hS.app (hids _)) ?_
              simp -dsimp -implicitDefEqProofs (disch := omega) [go_sem, -List.getD_eq_getElem?_getD, ite_yes, htp, ht, hc, hfl, hlt]
              first | refine AAt.of (by first | exact SubH.refl | exact SubH.app | exact SubH.both (by simp [subL])) ?_ | (refine ⟨?_, AAt.of (by first | exact SubH.refl | exact SubH.app | exact SubH.both (by simp [subL])) ?_⟩; · omega)
              refine AAny.takes (fuel := 4) (by kernel_rfl) (by kernel_rfl) [9] (by kernel_rfl) (by kernel_rfl) ?_
              simp -dsimp -implicitDefEqProofs (disch := omega) [go_sem, -List.getD_eq_getElem?_getD, ite_yes, htp, ht, hc, hfl, hlt]
              refine AAny.one 3 10 (by kernel_rfl) (by kernel_rfl) (by kernel_rfl) ?_
              simp -dsimp -implicitDefEqProofs (disch := omega) [go_sem, -List.getD_eq_getElem?_getD, ite_yes, htp, ht, hc, hfl, hlt]
              first | refine AAt.of (by first | exact SubH.refl | exact SubH.app | exact SubH.both (by simp [subL])) ?_ | (refine ⟨?_, AAt.of (by first | exact SubH.refl | exact SubH.app | exact SubH.both (by simp [subL])) ?_⟩; · omega)
              refine AAny.one 2 14 (by kernel_rfl) (by kernel_rfl) (by kernel_rfl) ?_
              simp -dsimp -implicitDefEqProofs (disch := omega) [go_sem, -List.getD_eq_getElem?_getD, ite_yes, htp, ht, hc, hfl, hlt]
              first | refine ACall.of (hB ▸ l18Dry_A n ps hN cp l (by omega) c src hsrc [] (by simp) 0 0 _ tp t (H.length + 4) hP.app hS.app (IdS.of (Sl.nth 4 rfl rfl))) ?_ | refine ACall.of (hB ▸ l18Dry_A n ps hN cp l (by omega) c src hsrc [] (by simp) 0 0 _ tp t (H.length + 3) hP.app hS.app (IdS.of (Sl.nth 3 rfl rfl))) ?_
              simp -dsimp -implicitDefEqProofs (disch := omega) [go_sem, -List.getD_eq_getElem?_getD, ite_yes, htp, ht, hc, hfl, hlt]
              first | refine AAt.of (by first | exact SubH.refl | exact SubH.app | exact SubH.both (by simp [subL])) ?_ | (refine ⟨?_, AAt.of (by first | exact SubH.refl | exact SubH.app | exact SubH.both (by simp [subL])) ?_⟩; · omega)
              refine AAny.takes (fuel := 0) (by kernel_rfl) (by kernel_rfl) [15, 16] (by kernel_rfl) (by kernel_rfl) ?_
              simp -dsimp -implicitDefEqProofs (disch := omega) [go_sem, -List.getD_eq_getElem?_getD, ite_yes, htp, ht, hc, hfl, hlt]
              refine AAny.done (by kernel_rfl) ?_
              simp -dsimp -implicitDefEqProofs (disch := omega) [go_sem, -List.getD_eq_getElem?_getD, ite_yes, htp, ht, hc, hfl, hlt]
              exact ⟨weakS_mk [some 0, some 1, some 2] rfl (by simp -dsimp -implicitDefEqProofs (disch := omega) [go_sem, -List.getD_eq_getElem?_getD, ite_yes]; exact ⟨wl_net htp, .inl ⟨rfl, nmE_flat _⟩, .inl ⟨rfl, nmE_flat _⟩⟩) (by simp -dsimp -implicitDefEqProofs (disch := omega) [go_sem, -List.getD_eq_getElem?_getD, ite_yes, htp, ht])⟩
            · simp -dsimp -implicitDefEqProofs (disch := omega) [go_sem, -List.getD_eq_getElem?_getD, ite_yes, htp, ht, hc, hfl, hlt]
              first | refine AAt.of (by first | exact SubH.refl | exact SubH.app | exact SubH.both (by simp [subL])) ?_ | (refine ⟨?_, AAt.of (by first | exact SubH.refl | exact SubH.app | exact SubH.both (by simp [subL])) ?_⟩; · omega)
              refine AAny.one 4 8 (by kernel_rfl) (by kernel_rfl) (by kernel_rfl) ?_
              simp -dsimp -implicitDefEqProofs (disch := omega) [go_sem, -List.getD_eq_getElem?_getD, ite_yes, htp, ht, hc, hfl, hlt]
              refine ACall.of (l18Dry_A n ps hN cp l (by omega) c src hsrc [id] (by simp) 1 k _ tp t (H.length + 2) hP.app hS.app (hids _)) ?_
              simp -dsimp -implicitDefEqProofs (disch := omega) [go_sem, -List.getD_eq_getElem?_getD, ite_yes, htp, ht, hc, hfl, hlt]
              first | refine AAt.of (by first | exact SubH.refl | exact SubH.app | exact SubH.both (by simp [subL])) ?_ | (refine ⟨?_, AAt.of (by first | exact SubH.refl | exact SubH.app | exact SubH.both (by simp [subL])) ?_⟩; · omega)
              refine AAny.takes (fuel := 3) (by kernel_rfl) (by kernel_rfl) [9] (by kernel_rfl) (by kernel_rfl) ?_
              simp -dsimp -implicitDefEqProofs (disch := omega) [go_sem, -List.getD_eq_getElem?_getD, ite_yes, htp, ht, hc, hfl, hlt]
              refine AAny.one 2 14 (by kernel_rfl) (by kernel_rfl) (by kernel_rfl) ?_
              simp -dsimp -implicitDefEqProofs (disch := omega) [go_sem, -List.getD_eq_getElem?_getD, ite_yes, htp, ht, hc, hfl, hlt]
              first | refine ACall.of (hB ▸ l18Dry_A n ps hN cp l (by omega) c src hsrc [] (by simp) 0 0 _ tp t (H.length + 4) hP.app hS.app (IdS.of (Sl.nth 4 rfl rfl))) ?_ | refine ACall.of (hB ▸ l18Dry_A n ps hN cp l (by omega) c src hsrc [] (by simp) 0 0 _ tp t (H.length + 3) hP.app hS.app (IdS.of (Sl.nth 3 rfl rfl))) ?_
              simp -dsimp -implicitDefEqProofs (disch := omega) [go_sem, -List.getD_eq_getElem?_getD, ite_yes, htp, ht, hc, hfl, hlt]
              first | refine AAt.of (by first | exact SubH.refl | exact SubH.app | exact SubH.both (by simp [subL])) ?_ | (refine ⟨?_, AAt.of (by first | exact SubH.refl | exact SubH.app | exact SubH.both (by simp [subL])) ?_⟩; · omega)
              refine AAny.takes (fuel := 0) (by kernel_rfl) (by kernel_rfl) [15, 16] (by kernel_rfl) (by kernel_rfl) ?_
              simp -dsimp -implicitDefEqProofs (disch := omega) [go_sem, -List.getD_eq_getElem?_getD, ite_yes, htp, ht, hc, hfl, hlt]
              refine AAny.done (by kernel_rfl) ?_
              simp -dsimp -implicitDefEqProofs (disch := omega) [go_sem, -List.getD_eq_getElem?_getD, ite_yes, htp, ht, hc, hfl, hlt]
              exact ⟨weakS_mk [some 0, some 1, some 2] rfl (by simp -dsimp -implicitDefEqProofs (disch := omega) [go_sem, -List.getD_eq_getElem?_getD, ite_yes]; exact ⟨wl_net htp, .inl ⟨rfl, nmE_flat _⟩, .inl ⟨rfl, nmE_flat _⟩⟩) (by simp -dsimp -implicitDefEqProofs (disch := omega) [go_sem, -List.getD_eq_getElem?_getD, ite_yes, htp, ht])⟩
        · simp -dsimp -implicitDefEqProofs (disch := omega) [go_sem, -List.getD_eq_getElem?_getD, ite_yes, htp, ht, hc, hfl, hlt]
          first | refine AAt.of (by first | exact SubH.refl | exact SubH.app | exact SubH.both (by simp [subL])) ?_ | (refine ⟨?_, AAt.of (by first | exact SubH.refl | exact SubH.app | exact SubH.both (by simp [subL])) ?_⟩; · omega)
          refine AAny.two 6 0 13 (by kernel_rfl) (by kernel_rfl) (by kernel_rfl) ?_ ?_
          · simp -dsimp -implicitDefEqProofs (disch := omega) [go_sem, -List.getD_eq_getElem?_getD, ite_yes, htp, ht, hc, hfl, hlt]
            first | refine AAt.of (by first | exact SubH.refl | exact SubH.app | exact SubH.both (by simp [subL])) ?_ | (refine ⟨?_, AAt.of (by first | exact SubH.refl | exact SubH.app | exact SubH.both (by simp [subL])) ?_⟩; · omega)
            refine AAny.two 5 8 13 (by kernel_rfl) (by kernel_rfl) (by kernel_rfl) ?_ ?_
            · simp -dsimp -implicitDefEqProofs (disch := omega) [go_sem, -List.getD_eq_getElem?_getD, ite_yes, htp, ht, hc, hfl, hlt]
              refine ACall.of (l18Dry_A n ps hN cp l (by omega) c src hsrc [id] (by simp) 1 k _ tp t (H.length + 2) hP.app hS.app (hids _)) ?_
              simp -dsimp -implicitDefEqProofs (disch := omega) [go_sem, -List.getD_eq_getElem?_getD, ite_yes, htp, ht, hc, hfl, hlt]
              first | refine AAt.of (by first | exact SubH.refl | exact SubH.app | exact SubH.both (by simp [subL])) ?_ | (refine ⟨?_, AAt.of (by first | exact SubH.refl | exact SubH.app | exact SubH.both (by simp [subL])) ?_⟩; · omega)
              refine AAny.takes (fuel := 4) (by kernel_rfl) (by kernel_rfl) [9] (by kernel_rfl) (by kernel_rfl) ?_
              simp -dsimp -implicitDefEqProofs (disch := omega) [go_sem, -List.getD_eq_getElem?_getD, ite_yes, htp, ht, hc, hfl, hlt]
              refine AAny.one 3 13 (by kernel_rfl) (by kernel_rfl) (by kernel_rfl) ?_
              simp -dsimp -implicitDefEqProofs (disch := omega) [go_sem, -List.getD_eq_getElem?_getD, ite_yes, htp, ht, hc, hfl, hlt]
              first | refine AAt.of (by first | exact SubH.refl | exact SubH.app | exact SubH.both (by simp [subL])) ?_ | (refine ⟨?_, AAt.of (by first | exact SubH.refl | exact SubH.app | exact SubH.both (by simp [subL])) ?_⟩; · omega)
              refine AAny.one 2 14 (by kernel_rfl) (by kernel_rfl) (by kernel_rfl) ?_
              simp -dsimp -implicitDefEqProofs (disch := omega) [go_sem, -List.getD_eq_getElem?_getD, ite_yes, htp, ht, hc, hfl, hlt]
              first | refine ACall.of (hB ▸ l18Dry_A n ps hN cp l (by omega) c src hsrc [] (by simp) 0 0 _ tp t (H.length + 4) hP.app hS.app (IdS.of (Sl.nth 4 rfl rfl))) ?_ | refine ACall.of (hB ▸ l18Dry_A n ps hN cp l (by omega) c src hsrc [] (by simp) 0 0 _ tp t (H.length + 3) hP.app hS.app (IdS.of (Sl.nth 3 rfl rfl))) ?_
              simp -dsimp -implicitDefEqProofs (disch := omega) [go_sem, -List.getD_eq_getElem?_getD, ite_yes, htp, ht, hc, hfl, hlt]
              first | refine AAt.of (by first | exact SubH.refl | exact SubH.app | exact SubH.both (by simp [subL])) ?_ | (refine ⟨?_, AAt.of (by first | exact SubH.refl | exact SubH.app | exact SubH.both (by simp [subL])) ?_⟩; · omega)
              refine AAny.takes (fuel := 0) (by kernel_rfl) (by kernel_rfl) [15, 16] (by kernel_rfl) (by kernel_rfl) ?_
              simp -dsimp -implicitDefEqProofs (disch := omega) [go_sem, -List.getD_eq_getElem?_getD, ite_yes, htp, ht, hc, hfl, hlt]
              refine AAny.done (by kernel_rfl) ?_
              simp -dsimp -implicitDefEqProofs (disch := omega) [go_sem, -List.getD_eq_getElem?_getD, ite_yes, htp, ht, hc, hfl, hlt]
              exact ⟨weakS_mk [some 0, some 1, some 2] rfl (by simp -dsimp -implicitDefEqProofs (disch := omega) [go_sem, -List.getD_eq_getElem?_getD, ite_yes]; exact ⟨wl_net htp, .inl ⟨rfl, nmE_flat _⟩, .inl ⟨rfl, nmE_flat _⟩⟩) (by simp -dsimp -implicitDefEqProofs (disch := omega) [go_sem, -List.getD_eq_getElem?_getD, ite_yes, htp, ht])⟩
            · simp -dsimp -implicitDefEqProofs (disch := omega) [go_sem, -List.getD_eq_getElem?_getD, ite_yes, htp, ht, hc, hfl, hlt]
              first | refine AAt.of (by first | exact SubH.refl | exact SubH.app | exact SubH.both (by simp [subL])) ?_ | (refine ⟨?_, AAt.of (by first | exact SubH.refl | exact SubH.app | exact SubH.both (by simp [subL])) ?_⟩; · omega)
              refine AAny.one 4 8 (by kernel_rfl) (by kernel_rfl) (by kernel_rfl) ?_
              simp -dsimp -implicitDefEqProofs (disch := omega) [go_sem, -List.getD_eq_getElem?_getD, ite_yes, htp, ht, hc, hfl, hlt]
              refine ACall.of (l18Dry_A n ps hN cp l (by omega) c src hsrc [id] (by simp) 1 k _ tp t (H.length + 2) hP.app hS.app (hids _)) ?_
              simp -dsimp -implicitDefEqProofs (disch := omega) [go_sem, -List.getD_eq_getElem?_getD, ite_yes, htp, ht, hc, hfl, hlt]
              first | refine AAt.of (by first | exact SubH.refl | exact SubH.app | exact SubH.both (by simp [subL])) ?_ | (refine ⟨?_, AAt.of (by first | exact SubH.refl | exact SubH.app | exact SubH.both (by simp [subL])) ?_⟩; · omega)
              refine AAny.takes (fuel := 3) (by kernel_rfl) (by kernel_rfl) [9] (by kernel_rfl) (by kernel_rfl) ?_
              simp -dsimp -implicitDefEqProofs (disch := omega) [go_sem, -List.getD_eq_getElem?_getD, ite_yes, htp, ht, hc, hfl, hlt]
              refine AAny.one 2 14 (by kernel_rfl) (by kernel_rfl) (by kernel_rfl) ?_
              simp -dsimp -implicitDefEqProofs (disch := omega) [go_sem, -List.getD_eq_getElem?_getD, ite_yes, htp, ht, hc, hfl, hlt]
              first | refine ACall.of (hB ▸ l18Dry_A n ps hN cp l (by omega) c src hsrc [] (by simp) 0 0 _ tp t (H.length + 4) hP.app hS.app (IdS.of (Sl.nth 4 rfl rfl))) ?_ | refine ACall.of (hB ▸ l18Dry_A n ps hN cp l (by omega) c src hsrc [] (by simp) 0 0 _ tp t (H.length + 3) hP.app hS.app (IdS.of (Sl.nth 3 rfl rfl))) ?_
              simp -dsimp -implicitDefEqProofs (disch := omega) [go_sem, -List.getD_eq_getElem?_getD, ite_yes, htp, ht, hc, hfl, hlt]
              first | refine AAt.of (by first | exact SubH.refl | exact SubH.app | exact SubH.both (by simp [subL])) ?_ | (refine ⟨?_, AAt.of (by first | exact SubH.refl | exact SubH.app | exact SubH.both (by simp [subL])) ?_⟩; · omega)
              refine AAny.takes (fuel := 0) (by kernel_rfl) (by kernel_rfl) [15, 16] (by kernel_rfl) (by kernel_rfl) ?_
              simp -dsimp -implicitDefEqProofs (disch := omega) [go_sem, -List.getD_eq_getElem?_getD, ite_yes, htp, ht, hc, hfl, hlt]
              refine AAny.done (by kernel_rfl) ?_
              simp -dsimp -implicitDefEqProofs (disch := omega) [go_sem, -List.getD_eq_getElem?_getD, ite_yes, htp, ht, hc, hfl, hlt]
              exact ⟨weakS_mk [some 0, some 1, some 2] rfl (by simp -dsimp -implicitDefEqProofs (disch := omega) [go_sem, -List.getD_eq_getElem?_getD, ite_yes]; exact ⟨wl_net htp, .inl ⟨rfl, nmE_flat _⟩, .inl ⟨rfl, nmE_flat _⟩⟩) (by simp -dsimp -implicitDefEqProofs (disch := omega) [go_sem, -List.getD_eq_getElem?_getD, ite_yes, htp, ht])⟩
          · simp -dsimp -implicitDefEqProofs (disch := omega) [go_sem, -List.getD_eq_getElem?_getD, ite_yes, htp, ht, hc, hfl, hlt]
            first | refine AAt.of (by first | exact SubH.refl | exact SubH.app | exact SubH.both (by simp [subL])) ?_ | (refine ⟨?_, AAt.of (by first | exact SubH.refl | exact SubH.app | exact SubH.both (by simp [subL])) ?_⟩; · omega)
            refine AAny.one 5 0 (by kernel_rfl) (by kernel_rfl) (by kernel_rfl) ?_
            simp -dsimp -implicitDefEqProofs (disch := omega) [go_sem, -List.getD_eq_getElem?_getD, ite_yes, htp, ht, hc, hfl, hlt]
            first | refine AAt.of (by first | exact SubH.refl | exact SubH.app | exact SubH.both (by simp [subL])) ?_ | (refine ⟨?_, AAt.of (by first | exact SubH.refl | exact SubH.app | exact SubH.both (by simp [subL])) ?_⟩; · omega)
            refine AAny.one 4 8 (by kernel_rfl) (by kernel_rfl) (by kernel_rfl) ?_
            simp -dsimp -implicitDefEqProofs (disch := omega) [go_sem, -List.getD_eq_getElem?_getD, ite_yes, htp, ht, hc, hfl, hlt]
            refine ACall.of (l18Dry_A n ps hN cp l (by omega) c src hsrc [id] (by simp) 1 k _ tp t (H.length + 2) hP.app hS.app (hids _)) ?_
            simp -dsimp -implicitDefEqProofs (disch := omega) [go_sem, -List.getD_eq_getElem?_getD, ite_yes, htp, ht, hc, hfl, hlt]
            first | refine AAt.of (by first | exact SubH.refl | exact SubH.app | exact SubH.both (by simp [subL])) ?_ | (refine ⟨?_, AAt.of (by first | exact SubH.refl | exact SubH.app | exact SubH.both (by simp [subL])) ?_⟩; · omega)
            refine AAny.takes (fuel := 3) (by kernel_rfl) (by kernel_rfl) [9] (by kernel_rfl) (by kernel_rfl) ?_
            simp -dsimp -implicitDefEqProofs (disch := omega) [go_sem, -List.getD_eq_getElem?_getD, ite_yes, htp, ht, hc, hfl, hlt]
            refine AAny.one 2 14 (by kernel_rfl) (by kernel_rfl) (by kernel_rfl) ?_
            simp -dsimp -implicitDefEqProofs (disch := omega) [go_sem, -List.getD_eq_getElem?_getD, ite_yes, htp, ht, hc, hfl, hlt]
            first | refine ACall.of (hB ▸ l18Dry_A n ps hN cp l (by omega) c src hsrc [] (by simp) 0 0 _ tp t (H.length + 4) hP.app hS.app (IdS.of (Sl.nth 4 rfl rfl))) ?_ | refine ACall.of (hB ▸ l18Dry_A n ps hN cp l (by omega) c src hsrc [] (by simp) 0 0 _ tp t (H.length + 3) hP.app hS.app (IdS.of (Sl.nth 3 rfl rfl))) ?_
            simp -dsimp -implicitDefEqProofs (disch := omega) [go_sem, -List.getD_eq_getElem?_getD, ite_yes, htp, ht, hc, hfl, hlt]
            first | refine AAt.of (by first | exact SubH.refl | exact SubH.app | exact SubH.both (by simp [subL])) ?_ | (refine ⟨?_, AAt.of (by first | exact SubH.refl | exact SubH.app | exact SubH.both (by simp [subL])) ?_⟩; · omega)
            refine AAny.takes (fuel := 0) (by kernel_rfl) (by kernel_rfl) [15, 16] (by kernel_rfl) (by kernel_rfl) ?_
            simp -dsimp -implicitDefEqProofs (disch := omega) [go_sem, -List.getD_eq_getElem?_getD, ite_yes, htp, ht, hc, hfl, hlt]
            refine AAny.done (by kernel_rfl) ?_
            simp -dsimp -implicitDefEqProofs (disch := omega) [go_sem, -List.getD_eq_getElem?_getD, ite_yes, htp, ht, hc, hfl, hlt]
            exact ⟨weakS_mk [some 0, some 1, some 2] rfl (by simp -dsimp -implicitDefEqProofs (disch := omega) [go_sem, -List.getD_eq_getElem?_getD, ite_yes]; exact ⟨wl_net htp, .inl ⟨rfl, nmE_flat _⟩, .inl ⟨rfl, nmE_flat _⟩⟩) (by simp -dsimp -implicitDefEqProofs (disch := omega) [go_sem, -List.getD_eq_getElem?_getD, ite_yes, htp, ht])⟩
        · simp -dsimp -implicitDefEqProofs (disch := omega) [go_sem, -List.getD_eq_getElem?_getD, ite_yes, htp, ht, hc, hfl, hlt]
          first | refine AAt.of (by first | exact SubH.refl | exact SubH.app | exact SubH.both (by simp [subL])) ?_ | (refine ⟨?_, AAt.of (by first | exact SubH.refl | exact SubH.app | exact SubH.both (by simp [subL])) ?_⟩; · omega)
          refine AAny.two 6 0 10 (by kernel_rfl) (by kernel_rfl) (by kernel_rfl) ?_ ?_
          · simp -dsimp -implicitDefEqProofs (disch := omega) [go_sem, -List.getD_eq_getElem?_getD, ite_yes, htp, ht, hc, hfl, hlt]
            first | refine AAt.of (by first | exact SubH.refl | exact SubH.app | exact SubH.both (by simp [subL])) ?_ | (refine ⟨?_, AAt.of (by first | exact SubH.refl | exact SubH.app | exact SubH.both (by simp [subL])) ?_⟩; · omega)
            refine AAny.two 5 8 10 (by kernel_rfl) (by kernel_rfl) (by kernel_rfl) ?_ ?_
            · simp -dsimp -implicitDefEqProofs (disch := omega) [go_sem, -List.getD_eq_getElem?_getD, ite_yes, htp, ht, hc, hfl, hlt]
              refine ACall.of (l18Dry_A n ps hN cp l (by omega) c src hsrc [id] (by simp) 1 k _ tp t (H.length + 2) hP.app hS.app (hids _)) ?_
              simp -dsimp -implicitDefEqProofs (disch := omega) [go_sem, -List.getD_eq_getElem?_getD, ite_yes, htp, ht, hc, hfl, hlt]
              first | refine AAt.of (by first | exact SubH.refl | exact SubH.app | exact SubH.both (by simp [subL])) ?_ | (refine ⟨?_, AAt.of (by first | exact SubH.refl | exact SubH.app | exact SubH.both (by simp [subL])) ?_⟩; · omega)
              refine AAny.takes (fuel := 4) (by kernel_rfl) (by kernel_rfl) [9] (by kernel_rfl) (by kernel_rfl) ?_
              simp -dsimp -implicitDefEqProofs (disch := omega) [go_sem, -List.getD_eq_getElem?_getD, ite_yes, htp, ht, hc, hfl, hlt]
              refine AAny.one 3 10 (by kernel_rfl) (by kernel_rfl) (by kernel_rfl) ?_
              simp -dsimp -implicitDefEqProofs (disch := omega) [go_sem, -List.getD_eq_getElem?_getD, ite_yes, htp, ht, hc, hfl, hlt]
              first | refine AAt.of (by first | exact SubH.refl | exact SubH.app | exact SubH.both (by simp [subL])) ?_ | (refine ⟨?_, AAt.of (by first | exact SubH.refl | exact SubH.app | exact SubH.both (by simp [subL])) ?_⟩; · omega)
              refine AAny.one 2 14 (by kernel_rfl) (by kernel_rfl) (by kernel_rfl) ?_
              simp -dsimp -implicitDefEqProofs (disch := omega) [go_sem, -List.getD_eq_getElem?_getD, ite_yes, htp, ht, hc, hfl, hlt]
              first | refine ACall.of (hB ▸ l18Dry_A n ps hN cp l (by omega) c src hsrc [] (by simp) 0 0 _ tp t (H.length + 4) hP.app hS.app (IdS.of (Sl.nth 4 rfl rfl))) ?_ | refine ACall.of (hB ▸ l18Dry_A n ps hN cp l (by omega) c src hsrc [] (by simp) 0 0 _ tp t (H.length + 3) hP.app hS.app (IdS.of (Sl.nth 3 rfl rfl))) ?_
              simp -dsimp -implicitDefEqProofs (disch := omega) [go_sem, -List.getD_eq_getElem?_getD, ite_yes, htp, ht, hc, hfl, hlt]
              first | refine AAt.of (by first | exact SubH.refl | exact SubH.app | exact SubH.both (by simp [subL])) ?_ | (refine ⟨?_, AAt.of (by first | exact SubH.refl | exact SubH.app | exact SubH.both (by simp [subL])) ?_⟩; · omega)
              refine AAny.takes (fuel := 0) (by kernel_rfl) (by kernel_rfl) [15, 16] (by kernel_rfl) (by kernel_rfl) ?_
              simp -dsimp -implicitDefEqProofs (disch := omega) [go_sem, -List.getD_eq_getElem?_getD, ite_yes, htp, ht, hc, hfl, hlt]
              refine AAny.done (by kernel_rfl) ?_
              simp -dsimp -implicitDefEqProofs (disch := omega) [go_sem, -List.getD_eq_getElem?_getD, ite_yes, htp, ht, hc, hfl, hlt]
              exact ⟨weakS_mk [some 0, some 1, some 2] rfl (by simp -dsimp -implicitDefEqProofs (disch := omega) [go_sem, -List.getD_eq_getElem?_getD, ite_yes]; exact ⟨wl_net htp, .inl ⟨rfl, nmE_flat _⟩, .inl ⟨rfl, nmE_flat _⟩⟩) (by simp -dsimp -implicitDefEqProofs (disch := omega) [go_sem, -List.getD_eq_getElem?_getD, ite_yes, htp, ht])⟩
            · simp -dsimp -implicitDefEqProofs (disch := omega) [go_sem, -List.getD_eq_getElem?_getD, ite_yes, htp, ht, hc, hfl, hlt]
              first | refine AAt.of (by first | exact SubH.refl | exact SubH.app | exact SubH.both (by simp [subL])) ?_ | (refine ⟨?_, AAt.of (by first | exact SubH.refl | exact SubH.app | exact SubH.both (by simp [subL])) ?_⟩; · omega)
              refine AAny.one 4 8 (by kernel_rfl) (by kernel_rfl) (by kernel_rfl) ?_
              simp -dsimp -implicitDefEqProofs (disch := omega) [go_sem, -List.getD_eq_getElem?_getD, ite_yes, htp, ht, hc, hfl, hlt]
              refine ACall.of (l18Dry_A n ps hN cp l (by omega) c src hsrc [id] (by simp) 1 k _ tp t (H.length + 2) hP.app hS.app (hids _)) ?_
              simp -dsimp -implicitDefEqProofs (disch := omega) [go_sem, -List.getD_eq_getElem?_getD, ite_yes, htp, ht, hc, hfl, hlt]
              first | refine AAt.of (by first | exact SubH.refl | exact SubH.app | exact SubH.both (by simp [subL])) ?_ | (refine ⟨?_, AAt.of (by first | exact SubH.refl | exact SubH.app | exact SubH.both (by simp [subL])) ?_⟩; · omega)
              refine AAny.takes (fuel := 3) (by kernel_rfl) (by kernel_rfl) [9] (by kernel_rfl) (by kernel_rfl) ?_
              simp -dsimp -implicitDefEqProofs (disch := omega) [go_sem, -List.getD_eq_getElem?_getD, ite_yes, htp, ht, hc, hfl, hlt]
              refine AAny.one 2 14 (by kernel_rfl) (by kernel_rfl) (by kernel_rfl) ?_
              simp -dsimp -implicitDefEqProofs (disch := omega) [go_sem, -List.getD_eq_getElem?_getD, ite_yes, htp, ht, hc, hfl, hlt]
              first | refine ACall.of (hB ▸ l18Dry_A n ps hN cp l (by omega) c src hsrc [] (by simp) 0 0 _ tp t (H.length + 4) hP.app hS.app (IdS.of (Sl.nth 4 rfl rfl))) ?_ | refine ACall.of (hB ▸ l18Dry_A n ps hN cp l (by omega) c src hsrc [] (by simp) 0 0 _ tp t (H.length + 3) hP.app hS.app (IdS.of (Sl.nth 3 rfl rfl))) ?_
              simp -dsimp -implicitDefEqProofs (disch := omega) [go_sem, -List.getD_eq_getElem?_getD, ite_yes, htp, ht, hc, hfl, hlt]
              first | refine AAt.of (by first | exact SubH.refl | exact SubH.app | exact SubH.both (by simp [subL])) ?_ | (refine ⟨?_, AAt.of (by first | exact SubH.refl | exact SubH.app | exact SubH.both (by simp [subL])) ?_⟩; · omega)
              refine AAny.takes (fuel := 0) (by kernel_rfl) (by kernel_rfl) [15, 16] (by kernel_rfl) (by kernel_rfl) ?_
              simp -dsimp -implicitDefEqProofs (disch := omega) [go_sem, -List.getD_eq_getElem?_getD, ite_yes, htp, ht, hc, hfl, hlt]
              refine AAny.done (by kernel_rfl) ?_
              simp -dsimp -implicitDefEqProofs (disch := omega) [go_sem, -List.getD_eq_getElem?_getD, ite_yes, htp, ht, hc, hfl, hlt]
              exact ⟨weakS_mk [some 0, some 1, some 2] rfl (by simp -dsimp -implicitDefEqProofs (disch := omega) [go_sem, -List.getD_eq_getElem?_getD, ite_yes]; exact ⟨wl_net htp, .inl ⟨rfl, nmE_flat _⟩, .inl ⟨rfl, nmE_flat _⟩⟩) (by simp -dsimp -implicitDefEqProofs (disch := omega) [go_sem, -List.getD_eq_getElem?_getD, ite_yes, htp, ht])⟩
          · simp -dsimp -implicitDefEqProofs (disch := omega) [go_sem, -List.getD_eq_getElem?_getD, ite_yes, htp, ht, hc, hfl, hlt]
            first | refine AAt.of (by first | exact SubH.refl | exact SubH.app | exact SubH.both (by simp [subL])) ?_ | (refine ⟨?_, AAt.of (by first | exact SubH.refl | exact SubH.app | exact SubH.both (by simp [subL])) ?_⟩; · omega)
            refine AAny.one 5 0 (by kernel_rfl) (by kernel_rfl) (by kernel_rfl) ?_
            simp -dsimp -implicitDefEqProofs (disch := omega) [go_sem, -List.getD_eq_getElem?_getD, ite_yes, htp, ht, hc, hfl, hlt]
            first | refine AAt.of (by first | exact SubH.refl | exact SubH.app | exact SubH.both (by simp [subL])) ?_ | (refine ⟨?_, AAt.of (by first | exact SubH.refl | exact SubH.app | exact SubH.both (by simp [subL])) ?_⟩; · omega)
            refine AAny.one 4 8 (by kernel_rfl) (by kernel_rfl) (by kernel_rfl) ?_
            simp -dsimp -implicitDefEqProofs (disch := omega) [go_sem, -List.getD_eq_getElem?_getD, ite_yes, htp, ht, hc, hfl, hlt]
            refine ACall.of (l18Dry_A n ps hN cp l (by omega) c src hsrc [id] (by simp) 1 k _ tp t (H.length + 2) hP.app hS.app (hids _)) ?_
            simp -dsimp -implicitDefEqProofs (disch := omega) [go_sem, -List.getD_eq_getElem?_getD, ite_yes, htp, ht, hc, hfl, hlt]
            first | refine AAt.of (by first | exact SubH.refl | exact SubH.app | exact SubH.both (by simp [subL])) ?_ | (refine ⟨?_, AAt.of (by first | exact SubH.refl | exact SubH.app | exact SubH.both (by simp [subL])) ?_⟩; · omega)
            refine AAny.takes (fuel := 3) (by kernel_rfl) (by kernel_rfl) [9] (by kernel_rfl) (by kernel_rfl) ?_
            simp -dsimp -implicitDefEqProofs (disch := omega) [go_sem, -List.getD_eq_getElem?_getD, ite_yes, htp, ht, hc, hfl, hlt]
            refine AAny.one 2 14 (by kernel_rfl) (by kernel_rfl) (by kernel_rfl) ?_
            simp -dsimp -implicitDefEqProofs (disch := omega) [go_sem, -List.getD_eq_getElem?_getD, ite_yes, htp, ht, hc, hfl, hlt]
            first | refine ACall.of (hB ▸ l18Dry_A n ps hN cp l (by omega) c src hsrc [] (by simp) 0 0 _ tp t (H.length + 4) hP.app hS.app (IdS.of (Sl.nth 4 rfl rfl))) ?_ | refine ACall.of (hB ▸ l18Dry_A n ps hN cp l (by omega) c src hsrc [] (by simp) 0 0 _ tp t (H.length + 3) hP.app hS.app (IdS.of (Sl.nth 3 rfl rfl))) ?_
            simp -dsimp -implicitDefEqProofs (disch := omega) [go_sem, -List.getD_eq_getElem?_getD, ite_yes, htp, ht, hc, hfl, hlt]
            first | refine AAt.of (by first | exact SubH.refl | exact SubH.app | exact SubH.both (by simp [subL])) ?_ | (refine ⟨?_, AAt.of (by first | exact SubH.refl | exact SubH.app | exact SubH.both (by simp [subL])) ?_⟩; · omega)
            refine AAny.takes (fuel := 0) (by kernel_rfl) (by kernel_rfl) [15, 16] (by kernel_rfl) (by kernel_rfl) ?_
            simp -dsimp -implicitDefEqProofs (disch := omega) [go_sem, -List.getD_eq_getElem?_getD, ite_yes, htp, ht, hc, hfl, hlt]
            refine AAny.done (by kernel_rfl) ?_
            simp -dsimp -implicitDefEqProofs (disch := omega) [go_sem, -List.getD_eq_getElem?_getD, ite_yes, htp, ht, hc, hfl, hlt]
            exact ⟨weakS_mk [some 0, some 1, some 2] rfl (by simp -dsimp -implicitDefEqProofs (disch := omega) [go_sem, -List.getD_eq_getElem?_getD, ite_yes]; exact ⟨wl_net htp, .inl ⟨rfl, nmE_flat _⟩, .inl ⟨rfl, nmE_flat _⟩⟩) (by simp -dsimp -implicitDefEqProofs (disch := omega) [go_sem, -List.getD_eq_getElem?_getD, ite_yes, htp, ht])⟩
      · simp -dsimp -implicitDefEqProofs (disch := omega) [go_sem, -List.getD_eq_getElem?_getD, ite_yes, hlt, hfl, c1, hfs]
        refine ⟨by omega, LoopEnd.of (k + 1) (by omega) (by omega) (weakS_mk [some 0, some 4, some 2] rfl ?_ (by simp -dsimp -implicitDefEqProofs (disch := omega) [go_sem, -List.getD_eq_getElem?_getD, ite_yes, htp, ht, e]))⟩
        simp -dsimp -implicitDefEqProofs (disch := omega) [go_sem, -List.getD_eq_getElem?_getD, ite_yes]
        exact ⟨wl_net htp, .inl ⟨by rw [e, List.flatMap_append]; rfl, by rw [show List.flatMap nmE (useTo n ps l src k) ++ [Value.int IntKind.i64 id] = List.flatMap nmE (useTo n ps l src (k + 1)) by rw [e, List.flatMap_append]; rfl]; exact nmE_flat _⟩, .inl ⟨rfl, nmE_flat _⟩⟩
    · rw [if_neg hc] at e
      simp -dsimp -implicitDefEqProofs (disch := omega) [go_sem, -List.getD_eq_getElem?_getD, ite_yes, hlt, htp, ht, c1, hfs]
      refine ADraw.mid ([(42, .bool false), (1, .slice (some ⟨t, 0, none⟩) l.length c), (2, .int .i64 src), (3, .pointer (some ⟨H.length, 0, none⟩)), (8, .slice (some ⟨H.length + 1, 0, none⟩) (useTo n ps l src k).length 0), (9, .slice (some ⟨H.length + 2, 0, none⟩) (shutL l).length 0), (10, .int .i64 k)]) (H ++ [some ⟨[.int .i64 n, .slice (some ⟨tp, 0, none⟩) ps.length cp], true, 33, 1⟩, some ⟨(useTo n ps l src k).flatMap nmE, true, 3, 1⟩, some ⟨(shutL l).flatMap nmE, true, 3, 1⟩]) ?_ ?_
      · skip
        refine ADraw.any (H ++ [none, none, some ⟨(shutL l).flatMap nmE, true, 3, 1⟩]) (by kernel_rfl) (by first | exact SubH.refl | exact SubH.app | exact SubH.both (by simp [subL])) ?_
        refine AAny.takes (fuel := 8) (by kernel_rfl) (by kernel_rfl) [1, 2, 3, 4, 5, 6, 7, 11, 12] (by kernel_rfl) (by kernel_rfl) ?_
        simp -dsimp -implicitDefEqProofs (disch := omega) [go_sem, -List.getD_eq_getElem?_getD, ite_yes, htp, ht, hc, hfl, hlt]
        refine AAny.three 7 0 10 13 (by kernel_rfl) (by kernel_rfl) (by kernel_rfl) ?_ ?_ ?_
        · simp -dsimp -implicitDefEqProofs (disch := omega) [go_sem, -List.getD_eq_getElem?_getD, ite_yes, htp, ht, hc, hfl, hlt]
          first | refine AAt.of (by first | exact SubH.refl | exact SubH.app | exact SubH.both (by simp [subL])) ?_ | (refine ⟨?_, AAt.of (by first | exact SubH.refl | exact SubH.app | exact SubH.both (by simp [subL])) ?_⟩; · omega)
          refine AAny.three 6 8 10 13 (by kernel_rfl) (by kernel_rfl) (by kernel_rfl) ?_ ?_ ?_
          · simp -dsimp -implicitDefEqProofs (disch := omega) [go_sem, -List.getD_eq_getElem?_getD, ite_yes, htp, ht, hc, hfl, hlt]
            refine ACall.of (l18Dry_A n ps hN cp l (by omega) c src hsrc [id] (by simp) 1 k _ tp t (H.length + 2) hP.app hS.app (hids _)) ?_
            simp -dsimp -implicitDefEqProofs (disch := omega) [go_sem, -List.getD_eq_getElem?_getD, ite_yes, htp, ht, hc, hfl, hlt]
            first | refine AAt.of (by first | exact SubH.refl | exact SubH.app | exact SubH.both (by simp [subL])) ?_ | (refine ⟨?_, AAt.of (by first | exact SubH.refl | exact SubH.app | exact SubH.both (by simp [subL])) ?_⟩; · omega)
            refine AAny.takes (fuel := 5) (by kernel_rfl) (by kernel_rfl) [9] (by kernel_rfl) (by kernel_rfl) ?_
            simp -dsimp -implicitDefEqProofs (disch := omega) [go_sem, -List.getD_eq_getElem?_getD, ite_yes, htp, ht, hc, hfl, hlt]
            refine AAny.two 4 10 13 (by kernel_rfl) (by kernel_rfl) (by kernel_rfl) ?_ ?_
            · simp -dsimp -implicitDefEqProofs (disch := omega) [go_sem, -List.getD_eq_getElem?_getD, ite_yes, htp, ht, hc, hfl, hlt]
              first | refine AAt.of (by first | exact SubH.refl | exact SubH.app | exact SubH.both (by simp [subL])) ?_ | (refine ⟨?_, AAt.of (by first | exact SubH.refl | exact SubH.app | exact SubH.both (by simp [subL])) ?_⟩; · omega)
              refine AAny.one 3 13 (by kernel_rfl) (by kernel_rfl) (by kernel_rfl) ?_
              simp -dsimp -implicitDefEqProofs (disch := omega) [go_sem, -List.getD_eq_getElem?_getD, ite_yes, htp, ht, hc, hfl, hlt]
              first | refine AAt.of (by first | exact SubH.refl | exact SubH.app | exact SubH.both (by simp [subL])) ?_ | (refine ⟨?_, AAt.of (by first | exact SubH.refl | exact SubH.app | exact SubH.both (by simp [subL])) ?_⟩; · omega)
              refine AAny.one 2 14 (by kernel_rfl) (by kernel_rfl) (by kernel_rfl) ?_
              simp -dsimp -implicitDefEqProofs (disch := omega) [go_sem, -List.getD_eq_getElem?_getD, ite_yes, htp, ht, hc, hfl, hlt]
              first | refine ACall.of (hB ▸ l18Dry_A n ps hN cp l (by omega) c src hsrc [] (by simp) 0 0 _ tp t (H.length + 4) hP.app hS.app (IdS.of (Sl.nth 4 rfl rfl))) ?_ | refine ACall.of (hB ▸ l18Dry_A n ps hN cp l (by omega) c src hsrc [] (by simp) 0 0 _ tp t (H.length + 3) hP.app hS.app (IdS.of (Sl.nth 3 rfl rfl))) ?_
              simp -dsimp -implicitDefEqProofs (disch := omega) [go_sem, -List.getD_eq_getElem?_getD, ite_yes, htp, ht, hc, hfl, hlt]
              first | refine AAt.of (by first | exact SubH.refl | exact SubH.app | exact SubH.both (by simp [subL])) ?_ | (refine ⟨?_, AAt.of (by first | exact SubH.refl | exact SubH.app | exact SubH.both (by simp [subL])) ?_⟩; · omega)
              refine AAny.takes (fuel := 0) (by kernel_rfl) (by kernel_rfl) [15, 16] (by kernel_rfl) (by kernel_rfl) ?_
              simp -dsimp -implicitDefEqProofs (disch := omega) [go_sem, -List.getD_eq_getElem?_getD, ite_yes, htp, ht, hc, hfl, hlt]
              refine AAny.done (by kernel_rfl) ?_
              simp -dsimp -implicitDefEqProofs (disch := omega) [go_sem, -List.getD_eq_getElem?_getD, ite_yes, htp, ht, hc, hfl, hlt]
              exact ⟨weakS_mk [some 0, some 1, some 2] rfl (by simp -dsimp -implicitDefEqProofs (disch := omega) [go_sem, -List.getD_eq_getElem?_getD, ite_yes]; exact ⟨wl_net htp, .inl ⟨rfl, nmE_flat _⟩, .inl ⟨rfl, nmE_flat _⟩⟩) (by simp -dsimp -implicitDefEqProofs (disch := omega) [go_sem, -List.getD_eq_getElem?_getD, ite_yes, htp, ht])⟩
            · simp -dsimp -implicitDefEqProofs (disch := omega) [go_sem, -List.getD_eq_getElem?_getD, ite_yes, htp, ht, hc, hfl, hlt]
              first | refine AAt.of (by first | exact SubH.refl | exact SubH.app | exact SubH.both (by simp [subL])) ?_ | (refine ⟨?_, AAt.of (by first | exact SubH.refl | exact SubH.app | exact SubH.both (by simp [subL])) ?_⟩; · omega)
              refine AAny.one 3 10 (by kernel_rfl) (by kernel_rfl) (by kernel_rfl) ?_
              simp -dsimp -implicitDefEqProofs (disch := omega) [go_sem, -List.getD_eq_getElem?_getD, ite_yes, htp, ht, hc, hfl, hlt]
              first | refine AAt.of (by first | exact SubH.refl | exact SubH.app | exact SubH.both (by simp [subL])) ?_ | (refine ⟨?_, AAt.of (by first | exact SubH.refl | exact SubH.app | exact SubH.both (by simp [subL])) ?_⟩; · omega)
              refine AAny.one 2 14 (by kernel_rfl) (by kernel_rfl) (by kernel_rfl) ?_
              simp -dsimp -implicitDefEqProofs (disch := omega) [go_sem, -List.getD_eq_getElem?_getD, ite_yes, htp, ht, hc, hfl, hlt]
              first | refine ACall.of (hB ▸ l18Dry_A n ps hN cp l (by omega) c src hsrc [] (by simp) 0 0 _ tp t (H.length + 4) hP.app hS.app (IdS.of (Sl.nth 4 rfl rfl))) ?_ | refine ACall.of (hB ▸ l18Dry_A n ps hN cp l (by omega) c src hsrc [] (by simp) 0 0 _ tp t (H.length + 3) hP.app hS.app (IdS.of (Sl.nth 3 rfl rfl))) ?_
              simp -dsimp -implicitDefEqProofs (disch := omega) [go_sem, -List.getD_eq_getElem?_getD, ite_yes, htp, ht, hc, hfl, hlt]
              first | refine AAt.of (by first | exact SubH.refl | exact SubH.app | exact SubH.both (by simp [subL])) ?_ | (refine ⟨?_, AAt.of (by first | exact SubH.refl | exact SubH.app | exact SubH.both (by simp [subL])) ?_⟩; · omega)
              refine AAny.takes (fuel := 0) (by kernel_rfl) (by kernel_rfl) [15, 16] (by kernel_rfl) (by kernel_rfl) ?_
              simp -dsimp -implicitDefEqProofs (disch := omega) [go_sem, -List.getD_eq_getElem?_getD, ite_yes, htp, ht, hc, hfl, hlt]
              refine AAny.done (by kernel_rfl) ?_
              simp -dsimp -implicitDefEqProofs (disch := omega) [go_sem, -List.getD_eq_getElem?_getD, ite_yes, htp, ht, hc, hfl, hlt]
              exact ⟨weakS_mk [some 0, some 1, some 2] rfl (by simp -dsimp -implicitDefEqProofs (disch := omega) [go_sem, -List.getD_eq_getElem?_getD, ite_yes]; exact ⟨wl_net htp, .inl ⟨rfl, nmE_flat _⟩, .inl ⟨rfl, nmE_flat _⟩⟩) (by simp -dsimp -implicitDefEqProofs (disch := omega) [go_sem, -List.getD_eq_getElem?_getD, ite_yes, htp, ht])⟩
          · simp -dsimp -implicitDefEqProofs (disch := omega) [go_sem, -List.getD_eq_getElem?_getD, ite_yes, htp, ht, hc, hfl, hlt]
            first | refine AAt.of (by first | exact SubH.refl | exact SubH.app | exact SubH.both (by simp [subL])) ?_ | (refine ⟨?_, AAt.of (by first | exact SubH.refl | exact SubH.app | exact SubH.both (by simp [subL])) ?_⟩; · omega)
            refine AAny.two 5 8 13 (by kernel_rfl) (by kernel_rfl) (by kernel_rfl) ?_ ?_
            · simp -dsimp -implicitDefEqProofs (disch := omega) [go_sem, -List.getD_eq_getElem?_getD, ite_yes, htp, ht, hc, hfl, hlt]
              refine ACall.of (l18Dry_A n ps hN cp l (by omega) c src hsrc [id] (by simp) 1 k _ tp t (H.length + 2) hP.app hS.app (hids _)) ?_
              simp -dsimp -implicitDefEqProofs (disch := omega) [go_sem, -List.getD_eq_getElem?_getD, ite_yes, htp, ht, hc, hfl, hlt]
              first | refine AAt.of (by first | exact SubH.refl | exact SubH.app | exact SubH.both (by simp [subL])) ?_ | (refine ⟨?_, AAt.of (by first | exact SubH.refl | exact SubH.app | exact SubH.both (by simp [subL])) ?_⟩; · omega)
              refine AAny.takes (fuel := 4) (by kernel_rfl) (by kernel_rfl) [9] (by kernel_rfl) (by kernel_rfl) ?_
              simp -dsimp -implicitDefEqProofs (disch := omega) [go_sem, -List.getD_eq_getElem?_getD, ite_yes, htp, ht, hc, hfl, hlt]
              refine AAny.one 3 13 (by kernel_rfl) (by kernel_rfl) (by kernel_rfl) ?_
              simp -dsimp -implicitDefEqProofs (disch := omega) [go_sem, -List.getD_eq_getElem?_getD, ite_yes, htp, ht, hc, hfl, hlt]
              first | refine AAt.of (by first | exact SubH.refl | exact SubH.app | exact SubH.both (by simp [subL])) ?_ | (refine ⟨?_, AAt.of (by first | exact SubH.refl | exact SubH.app | exact SubH.both (by simp [subL])) ?_⟩; · omega)
              refine AAny.one 2 14 (by kernel_rfl) (by kernel_rfl) (by kernel_rfl) ?_
              simp -dsimp -implicitDefEqProofs (disch := omega) [go_sem, -List.getD_eq_getElem?_getD, ite_yes, htp, ht, hc, hfl, hlt]
              first | refine ACall.of (hB ▸ l18Dry_A n ps hN cp l (by omega) c src hsrc [] (by simp) 0 0 _ tp t (H.length + 4) hP.app hS.app (IdS.of (Sl.nth 4 rfl rfl))) ?_ | refine ACall.of (hB ▸ l18Dry_A n ps hN cp l (by omega) c src hsrc [] (by simp) 0 0 _ tp t (H.length + 3) hP.app hS.app (IdS.of (Sl.nth 3 rfl rfl))) ?_
              simp -dsimp -implicitDefEqProofs (disch := omega) [go_sem, -List.getD_eq_getElem?_getD, ite_yes, htp, ht, hc, hfl, hlt]
              first | refine AAt.of (by first | exact SubH.refl | exact SubH.app | exact SubH.both (by simp [subL])) ?_ | (refine ⟨?_, AAt.of (by first | exact SubH.refl | exact SubH.app | exact SubH.both (by simp [subL])) ?_⟩; · omega)
              refine AAny.takes (fuel := 0) (by kernel_rfl) (by kernel_rfl) [15, 16] (by kernel_rfl) (by kernel_rfl) ?_
              simp -dsimp -implicitDefEqProofs (disch := omega) [go_sem, -List.getD_eq_getElem?_getD, ite_yes, htp, ht, hc, hfl, hlt]
              refine AAny.done (by kernel_rfl) ?_
              simp -dsimp -implicitDefEqProofs (disch := omega) [go_sem, -List.getD_eq_getElem?_getD, ite_yes, htp, ht, hc, hfl, hlt]
              exact ⟨weakS_mk [some 0, some 1, some 2] rfl (by simp -dsimp -implicitDefEqProofs (disch := omega) [go_sem, -List.getD_eq_getElem?_getD, ite_yes]; exact ⟨wl_net htp, .inl ⟨rfl, nmE_flat _⟩, .inl ⟨rfl, nmE_flat _⟩⟩) (by simp -dsimp -implicitDefEqProofs (disch := omega) [go_sem, -List.getD_eq_getElem?_getD, ite_yes, htp, ht])⟩
            · simp -dsimp -implicitDefEqProofs (disch := omega) [go_sem, -List.getD_eq_getElem?_getD, ite_yes, htp, ht, hc, hfl, hlt]
              first | refine AAt.of (by first | exact SubH.refl | exact SubH.app | exact SubH.both (by simp [subL])) ?_ | (refine ⟨?_, AAt.of (by first | exact SubH.refl | exact SubH.app | exact SubH.both (by simp [subL])) ?_⟩; · omega)
              refine AAny.one 4 8 (by kernel_rfl) (by kernel_rfl) (by kernel_rfl) ?_
              simp -dsimp -implicitDefEqProofs (disch := omega) [go_sem, -List.getD_eq_getElem?_getD, ite_yes, htp, ht, hc, hfl, hlt]
              refine ACall.of (l18Dry_A n ps hN cp l (by omega) c src hsrc [id] (by simp) 1 k _ tp t (H.length + 2) hP.app hS.app (hids _)) ?_
              simp -dsimp -implicitDefEqProofs (disch := omega) [go_sem, -List.getD_eq_getElem?_getD, ite_yes, htp, ht, hc, hfl, hlt]
              first | refine AAt.of (by first | exact SubH.refl | exact SubH.app | exact SubH.both (by simp [subL])) ?_ | (refine ⟨?_, AAt.of (by first | exact SubH.refl | exact SubH.app | exact SubH.both (by simp [subL])) ?_⟩; · omega)
              refine AAny.takes (fuel := 3) (by kernel_rfl) (by kernel_rfl) [9] (by kernel_rfl) (by kernel_rfl) ?_
              simp -dsimp -implicitDefEqProofs (disch := omega) [go_sem, -List.getD_eq_getElem?_getD, ite_yes, htp, ht, hc, hfl, hlt]
              refine AAny.one 2 14 (by kernel_rfl) (by kernel_rfl) (by kernel_rfl) ?_
              simp -dsimp -implicitDefEqProofs (disch := omega) [go_sem, -List.getD_eq_getElem?_getD, ite_yes, htp, ht, hc, hfl, hlt]
              first | refine ACall.of (hB ▸ l18Dry_A n ps hN cp l (by omega) c src hsrc [] (by simp) 0 0 _ tp t (H.length + 4) hP.app hS.app (IdS.of (Sl.nth 4 rfl rfl))) ?_ | refine ACall.of (hB ▸ l18Dry_A n ps hN cp l (by omega) c src hsrc [] (by simp) 0 0 _ tp t (H.length + 3) hP.app hS.app (IdS.of (Sl.nth 3 rfl rfl))) ?_
              simp -dsimp -implicitDefEqProofs (disch := omega) [go_sem, -List.getD_eq_getElem?_getD, ite_yes, htp, ht, hc, hfl, hlt]
              first | refine AAt.of (by first | exact SubH.refl | exact SubH.app | exact SubH.both (by simp [subL])) ?_ | (refine ⟨?_, AAt.of (by first | exact SubH.refl | exact SubH.app | exact SubH.both (by simp [subL])) ?_⟩; · omega)
              refine AAny.takes (fuel := 0) (by kernel_rfl) (by kernel_rfl) [15, 16] (by kernel_rfl) (by kernel_rfl) ?_
              simp -dsimp -implicitDefEqProofs (disch := omega) [go_sem, -List.getD_eq_getElem?_getD, ite_yes, htp, ht, hc, hfl, hlt]
              refine AAny.done (by kernel_rfl) ?_
              simp -dsimp -implicitDefEqProofs (disch := omega) [go_sem, -List.getD_eq_getElem?_getD, ite_yes, htp, ht, hc, hfl, hlt]
              exact ⟨weakS_mk [some 0, some 1, some 2] rfl (by simp -dsimp -implicitDefEqProofs (disch := omega) [go_sem, -List.getD_eq_getElem?_getD, ite_yes]; exact ⟨wl_net htp, .inl ⟨rfl, nmE_flat _⟩, .inl ⟨rfl, nmE_flat _⟩⟩) (by simp -dsimp -implicitDefEqProofs (disch := omega) [go_sem, -List.getD_eq_getElem?_getD, ite_yes, htp, ht])⟩
          · simp -dsimp -implicitDefEqProofs (disch := omega) [go_sem, -List.getD_eq_getElem?_getD, ite_yes, htp, ht, hc, hfl, hlt]
            first | refine AAt.of (by first | exact SubH.refl | exact SubH.app | exact SubH.both (by simp [subL])) ?_ | (refine ⟨?_, AAt.of (by first | exact SubH.refl | exact SubH.app | exact SubH.both (by simp [subL])) ?_⟩; · omega)
            refine AAny.two 5 8 10 (by kernel_rfl) (by kernel_rfl) (by kernel_rfl) ?_ ?_
            · simp -dsimp -implicitDefEqProofs (disch := omega) [go_sem, -List.getD_eq_getElem?_getD, ite_yes, htp, ht, hc, hfl, hlt]
              refine ACall.of (l18Dry_A n ps hN cp l (by omega) c src hsrc [id] (by simp) 1 k _ tp t (H.length + 2) hP.app hS.app (hids _)) ?_
              simp -dsimp -implicitDefEqProofs (disch := omega) [go_sem, -List.getD_eq_getElem?_getD, ite_yes, htp, ht, hc, hfl, hlt]
              first | refine AAt.of (by first | exact SubH.refl | exact SubH.app | exact SubH.both (by simp [subL])) ?_ | (refine ⟨?_, AAt.of (by first | exact SubH.refl | exact SubH.app | exact SubH.both (by simp [subL])) ?_⟩; · omega)
              refine AAny.takes (fuel := 4) (by kernel_rfl) (by kernel_rfl) [9] (by kernel_rfl) (by kernel_rfl) ?_
              simp -dsimp -implicitDefEqProofs (disch := omega) [go_sem, -List.getD_eq_getElem?_getD, ite_yes, htp, ht, hc, hfl, hlt]
              refine AAny.one 3 10 (by kernel_rfl) (by kernel_rfl) (by kernel_rfl) ?_
              simp -dsimp -implicitDefEqProofs (disch := omega) [go_sem, -List.getD_eq_getElem?_getD, ite_yes, htp, ht, hc, hfl, hlt]
              first | refine AAt.of (by first | exact SubH.refl | exact SubH.app | exact SubH.both (by simp [subL])) ?_ | (refine ⟨?_, AAt.of (by first | exact SubH.refl | exact SubH.app | exact SubH.both (by simp [subL])) ?_⟩; · omega)
              refine AAny.one 2 14 (by kernel_rfl) (by kernel_rfl) (by kernel_rfl) ?_
              simp -dsimp -implicitDefEqProofs (disch := omega) [go_sem, -List.getD_eq_getElem?_getD, ite_yes, htp, ht, hc, hfl, hlt]
              first | refine ACall.of (hB ▸ l18Dry_A n ps hN cp l (by omega) c src hsrc [] (by simp) 0 0 _ tp t (H.length + 4) hP.app hS.app (IdS.of (Sl.nth 4 rfl rfl))) ?_ | refine ACall.of (hB ▸ l18Dry_A n ps hN cp l (by omega) c src hsrc [] (by simp) 0 0 _ tp t (H.length + 3) hP.app hS.app (IdS.of (Sl.nth 3 rfl rfl))) ?_
              simp -dsimp -implicitDefEqProofs (disch := omega) [go_sem, -List.getD_eq_getElem?_getD, ite_yes, htp, ht, hc, hfl, hlt]
              first | refine AAt.of (by first | exact SubH.refl | exact SubH.app | exact SubH.both (by simp [subL])) ?_ | (refine ⟨?_, AAt.of (by first | exact SubH.refl | exact SubH.app | exact SubH.both (by simp [subL])) ?_⟩; · omega)
              refine AAny.takes (fuel := 0) (by kernel_rfl) (by kernel_rfl) [15, 16] (by kernel_rfl) (by kernel_rfl) ?_
              simp -dsimp -implicitDefEqProofs (disch := omega) [go_sem, -List.getD_eq_getElem?_getD, ite_yes, htp, ht, hc, hfl, hlt]
              refine AAny.done (by kernel_rfl) ?_
              simp -dsimp -implicitDefEqProofs (disch := omega) [go_sem, -List.getD_eq_getElem?_getD, ite_yes, htp, ht, hc, hfl, hlt]
              exact ⟨weakS_mk [some 0, some 1, some 2] rfl (by simp -dsimp -implicitDefEqProofs (disch := omega) [go_sem, -List.getD_eq_getElem?_getD, ite_yes]; exact ⟨wl_net htp, .inl ⟨rfl, nmE_flat _⟩, .inl ⟨rfl, nmE_flat _⟩⟩) (by simp -dsimp -implicitDefEqProofs (disch := omega) [go_sem, -List.getD_eq_getElem?_getD, ite_yes, htp, ht])⟩
            · simp -dsimp -implicitDefEqProofs (disch := omega) [go_sem, -List.getD_eq_getElem?_getD, ite_yes, htp, ht, hc, hfl, hlt]
              first | refine AAt.of (by first | exact SubH.refl | exact SubH.app | exact SubH.both (by simp [subL])) ?_ | (refine ⟨?_, AAt.of (by first | exact SubH.refl | exact SubH.app | exact SubH.both (by simp [subL])) ?_⟩; · omega)
              refine AAny.one 4 8 (by kernel_rfl) (by kernel_rfl) (by kernel_rfl) ?_
              simp -dsimp -implicitDefEqProofs (disch := omega) [go_sem, -List.getD_eq_getElem?_getD, ite_yes, htp, ht, hc, hfl, hlt]
              refine ACall.of (l18Dry_A n ps hN cp l (by omega) c src hsrc [id] (by simp) 1 k _ tp t (H.length + 2) hP.app hS.app (hids _)) ?_
              simp -dsimp -implicitDefEqProofs (disch := omega) [go_sem, -List.getD_eq_getElem?_getD, ite_yes, htp, ht, hc, hfl, hlt]
              first | refine AAt.of (by first | exact SubH.refl | exact SubH.app | exact SubH.both (by simp [subL])) ?_ | (refine ⟨?_, AAt.of (by first | exact SubH.refl | exact SubH.app | exact SubH.both (by simp [subL])) ?_⟩; · omega)
              refine AAny.takes (fuel := 3) (by kernel_rfl) (by kernel_rfl) [9] (by kernel_rfl) (by kernel_rfl) ?_
              simp -dsimp -implicitDefEqProofs (disch := omega) [go_sem, -List.getD_eq_getElem?_getD, ite_yes, htp, ht, hc, hfl, hlt]
              refine AAny.one 2 14 (by kernel_rfl) (by kernel_rfl) (by kernel_rfl) ?_
              simp -dsimp -implicitDefEqProofs (disch := omega) [go_sem, -List.getD_eq_getElem?_getD, ite_yes, htp, ht, hc, hfl, hlt]
              first | refine ACall.of (hB ▸ l18Dry_A n ps hN cp l (by omega) c src hsrc [] (by simp) 0 0 _ tp t (H.length + 4) hP.app hS.app (IdS.of (Sl.nth 4 rfl rfl))) ?_ | refine ACall.of (hB ▸ l18Dry_A n ps hN cp l (by omega) c src hsrc [] (by simp) 0 0 _ tp t (H.length + 3) hP.app hS.app (IdS.of (Sl.nth 3 rfl rfl))) ?_
              simp -dsimp -implicitDefEqProofs (disch := omega) [go_sem, -List.getD_eq_getElem?_getD, ite_yes, htp, ht, hc, hfl, hlt]
              first | refine AAt.of (by first | exact SubH.refl | exact SubH.app | exact SubH.both (by simp [subL])) ?_ | (refine ⟨?_, AAt.of (by first | exact SubH.refl | exact SubH.app | exact SubH.both (by simp [subL])) ?_⟩; · omega)
              refine AAny.takes (fuel := 0) (by kernel_rfl) (by kernel_rfl) [15, 16] (by kernel_rfl) (by kernel_rfl) ?_
              simp -dsimp -implicitDefEqProofs (disch := omega) [go_sem, -List.getD_eq_getElem?_getD, ite_yes, htp, ht, hc, hfl, hlt]
              refine AAny.done (by kernel_rfl) ?_
              simp -dsimp -implicitDefEqProofs (disch := omega) [go_sem, -List.getD_eq_getElem?_getD, ite_yes, htp, ht, hc, hfl, hlt]
              exact ⟨weakS_mk [some 0, some 1, some 2] rfl (by simp -dsimp -implicitDefEqProofs (disch := omega) [go_sem, -List.getD_eq_getElem?_getD, ite_yes]; exact ⟨wl_net htp, .inl ⟨rfl, nmE_flat _⟩, .inl ⟨rfl, nmE_flat _⟩⟩) (by simp -dsimp -implicitDefEqProofs (disch := omega) [go_sem, -List.getD_eq_getElem?_getD, ite_yes, htp, ht])⟩
        · simp -dsimp -implicitDefEqProofs (disch := omega) [go_sem, -List.getD_eq_getElem?_getD, ite_yes, htp, ht, hc, hfl, hlt]
          first | refine AAt.of (by first | exact SubH.refl | exact SubH.app | exact SubH.both (by simp [subL])) ?_ | (refine ⟨?_, AAt.of (by first | exact SubH.refl | exact SubH.app | exact SubH.both (by simp [subL])) ?_⟩; · omega)
          refine AAny.two 6 0 13 (by kernel_rfl) (by kernel_rfl) (by kernel_rfl) ?_ ?_
          · simp -dsimp -implicitDefEqProofs (disch := omega) [go_sem, -List.getD_eq_getElem?_getD, ite_yes, htp, ht, hc, hfl, hlt]
            first | refine AAt.of (by first | exact SubH.refl | exact SubH.app | exact SubH.both (by simp [subL])) ?_ | (refine ⟨?_, AAt.of (by first | exact SubH.refl | exact SubH.app | exact SubH.both (by simp [subL])) ?_⟩; · omega)
            refine AAny.two 5 8 13 (by kernel_rfl) (by kernel_rfl) (by kernel_rfl) ?_ ?_
            · simp -dsimp -implicitDefEqProofs (disch := omega) [go_sem, -List.getD_eq_getElem?_getD, ite_yes, htp, ht, hc, hfl, hlt]
              refine ACall.of (l18Dry_A n ps hN cp l (by omega) c src hsrc [id] (by simp) 1 k _ tp t (H.length + 2) hP.app hS.app (hids _)) ?_
              simp -dsimp -implicitDefEqProofs (disch := omega) [go_sem, -List.getD_eq_getElem?_getD, ite_yes, htp, ht, hc, hfl, hlt]
              first | refine AAt.of (by first | exact SubH.refl | exact SubH.app | exact SubH.both (by simp [subL])) ?_ | (refine ⟨?_, AAt.of (by first | exact SubH.refl | exact SubH.app | exact SubH.both (by simp [subL])) ?_⟩; · omega)
              refine AAny.takes (fuel := 4) (by kernel_rfl) (by kernel_rfl) [9] (by kernel_rfl) (by kernel_rfl) ?_
              simp -dsimp -implicitDefEqProofs (disch := omega) [go_sem, -List.getD_eq_getElem?_getD, ite_yes, htp, ht, hc, hfl, hlt]
              refine AAny.one 3 13 (by kernel_rfl) (by kernel_rfl) (by kernel_rfl) ?_
              simp -dsimp -implicitDefEqProofs (disch := omega) [go_sem, -List.getD_eq_getElem?_getD, ite_yes, htp, ht, hc, hfl, hlt]
              first | refine AAt.of (by first | exact SubH.refl | exact SubH.app | exact SubH.both (by simp [subL])) ?_ | (refine ⟨?_, AAt.of (by first | exact SubH.refl | exact SubH.app | exact SubH.both (by simp [subL])) ?_⟩; · omega)
              refine AAny.one 2 14 (by kernel_rfl) (by kernel_rfl) (by kernel_rfl) ?_
              simp -dsimp -implicitDefEqProofs (disch := omega) [go_sem, -List.getD_eq_getElem?_getD, ite_yes, htp, ht, hc, hfl, hlt]
              first | refine ACall.of (hB ▸ l18Dry_A n ps hN cp l (by omega) c src hsrc [] (by simp) 0 0 _ tp t (H.length + 4) hP.app hS.app (IdS.of (Sl.nth 4 rfl rfl))) ?_ | refine ACall.of (hB ▸ l18Dry_A n ps hN cp l (by omega) c src hsrc [] (by simp) 0 0 _ tp t (H.length + 3) hP.app hS.app (IdS.of (Sl.nth 3 rfl rfl))) ?_
              simp -dsimp -implicitDefEqProofs (disch := omega) [go_sem, -List.getD_eq_getElem?_getD, ite_yes, htp, ht, hc, hfl, hlt]
              first | refine AAt.of (by first | exact SubH.refl | exact SubH.app | exact SubH.both (by simp [subL])) ?_ | (refine ⟨?_, AAt.of (by first | exact SubH.refl | exact SubH.app | exact SubH.both (by simp [subL])) ?_⟩; · omega)
              refine AAny.takes (fuel := 0) (by kernel_rfl) (by kernel_rfl) [15, 16] (by kernel_rfl) (by kernel_rfl) ?_
              simp -dsimp -implicitDefEqProofs (disch := omega) [go_sem, -List.getD_eq_getElem?_getD, ite_yes, htp, ht, hc, hfl, hlt]
              refine AAny.done (by kernel_rfl) ?_
              simp -dsimp -implicitDefEqProofs (disch := omega) [go_sem, -List.getD_eq_getElem?_getD, ite_yes, htp, ht, hc, hfl, hlt]
              exact ⟨weakS_mk [some 0, some 1, some 2] rfl (by simp -dsimp -implicitDefEqProofs (disch := omega) [go_sem, -List.getD_eq_getElem?_getD, ite_yes]; exact ⟨wl_net htp, .inl ⟨rfl, nmE_flat _⟩, .inl ⟨rfl, nmE_flat _⟩⟩) (by simp -dsimp -implicitDefEqProofs (disch := omega) [go_sem, -List.getD_eq_getElem?_getD, ite_yes, htp, ht])⟩
            · simp -dsimp -implicitDefEqProofs (disch := omega) [go_sem, -List.getD_eq_getElem?_getD, ite_yes, htp, ht, hc, hfl, hlt]
              first | refine AAt.of (by first | exact SubH.refl | exact SubH.app | exact SubH.both (by simp [subL])) ?_ | (refine ⟨?_, AAt.of (by first | exact SubH.refl | exact SubH.app | exact SubH.both (by simp [subL])) ?_⟩; · omega)
              refine AAny.one 4 8 (by kernel_rfl) (by kernel_rfl) (by kernel_rfl) ?_
              simp -dsimp -implicitDefEqProofs (disch := omega) [go_sem, -List.getD_eq_getElem?_getD, ite_yes, htp, ht, hc, hfl, hlt]
              refine ACall.of (l18Dry_A n ps hN cp l (by omega) c src hsrc [id] (by simp) 1 k _ tp t (H.length + 2) hP.app hS.app (hids _)) ?_
              simp -dsimp -implicitDefEqProofs (disch := omega) [go_sem, -List.getD_eq_getElem?_getD, ite_yes, htp, ht, hc, hfl, hlt]
              first | refine AAt.of (by first | exact SubH.refl | exact SubH.app | exact SubH.both (by simp [subL])) ?_ | (refine ⟨?_, AAt.of (by first | exact SubH.refl | exact SubH.app | exact SubH.both (by simp [subL])) ?_⟩; · omega)
              refine AAny.takes (fuel := 3) (by kernel_rfl) (by kernel_rfl) [9] (by kernel_rfl) (by kernel_rfl) ?_
              simp -dsimp -implicitDefEqProofs (disch := omega) [go_sem, -List.getD_eq_getElem?_getD, ite_yes, htp, ht, hc, hfl, hlt]
              refine AAny.one 2 14 (by kernel_rfl) (by kernel_rfl) (by kernel_rfl) ?_
              simp -dsimp -implicitDefEqProofs (disch := omega) [go_sem, -List.getD_eq_getElem?_getD, ite_yes, htp, ht, hc, hfl, hlt]
              first | refine ACall.of (hB ▸ l18Dry_A n ps hN cp l (by omega) c src hsrc [] (by simp) 0 0 _ tp t (H.length + 4) hP.app hS.app (IdS.of (Sl.nth 4 rfl rfl))) ?_ | refine ACall.of (hB ▸ l18Dry_A n ps hN cp l (by omega) c src hsrc [] (by simp) 0 0 _ tp t (H.length + 3) hP.app hS.app (IdS.of (Sl.nth 3 rfl rfl))) ?_
              simp -dsimp -implicitDefEqProofs (disch := omega) [go_sem, -List.getD_eq_getElem?_getD, ite_yes, htp, ht, hc, hfl, hlt]
              first | refine AAt.of (by first | exact SubH.refl | exact SubH.app | exact SubH.both (by simp [subL])) ?_ | (refine ⟨?_, AAt.of (by first | exact SubH.refl | exact SubH.app | exact SubH.both (by simp [subL])) ?_⟩; · omega)
              refine AAny.takes (fuel := 0) (by kernel_rfl) (by kernel_rfl) [15, 16] (by kernel_rfl) (by kernel_rfl) ?_
              simp -dsimp -implicitDefEqProofs (disch := omega) [go_sem, -List.getD_eq_getElem?_getD, ite_yes, htp, ht, hc, hfl, hlt]
              refine AAny.done (by kernel_rfl) ?_
              simp -dsimp -implicitDefEqProofs (disch := omega) [go_sem, -List.getD_eq_getElem?_getD, ite_yes, htp, ht, hc, hfl, hlt]
              exact ⟨weakS_mk [some 0, some 1, some 2] rfl (by simp -dsimp -implicitDefEqProofs (disch := omega) [go_sem, -List.getD_eq_getElem?_getD, ite_yes]; exact ⟨wl_net htp, .inl ⟨rfl, nmE_flat _⟩, .inl ⟨rfl, nmE_flat _⟩⟩) (by simp -dsimp -implicitDefEqProofs (disch := omega) [go_sem, -List.getD_eq_getElem?_getD, ite_yes, htp, ht])⟩
          · simp -dsimp -implicitDefEqProofs (disch := omega) [go_sem, -List.getD_eq_getElem?_getD, ite_yes, htp, ht, hc, hfl, hlt]
            first | refine AAt.of (by first | exact SubH.refl | exact SubH.app | exact SubH.both (by simp [subL])) ?_ | (refine ⟨?_, AAt.of (by first | exact SubH.refl | exact SubH.app | exact SubH.both (by simp [subL])) ?_⟩; · omega)
            refine AAny.one 5 0 (by kernel_rfl) (by kernel_rfl) (by kernel_rfl) ?_
            simp -dsimp -implicitDefEqProofs (disch := omega) [go_sem, -List.getD_eq_getElem?_getD, ite_yes, htp, ht, hc, hfl, hlt]
            first | refine AAt.of (by first | exact SubH.refl | exact SubH.app | exact SubH.both (by simp [subL])) ?_ | (refine ⟨?_, AAt.of (by first | exact SubH.refl | exact SubH.app | exact SubH.both (by simp [subL])) ?_⟩; · omega)
            refine AAny.one 4 8 (by kernel_rfl) (by kernel_rfl) (by kernel_rfl) ?_
            simp -dsimp -implicitDefEqProofs (disch := omega) [go_sem, -List.getD_eq_getElem?_getD, ite_yes, htp, ht, hc, hfl, hlt]
            refine ACall.of (l18Dry_A n ps hN cp l (by omega) c src hsrc [id] (by simp) 1 k _ tp t (H.length + 2) hP.app hS.app (hids _)) ?_
            simp -dsimp -implicitDefEqProofs (disch := omega) [go_sem, -List.getD_eq_getElem?_getD, ite_yes, htp, ht, hc, hfl, hlt]
            first | refine AAt.of (by first | exact SubH.refl | exact SubH.app | exact SubH.both (by simp [subL])) ?_ | (refine ⟨?_, AAt.of (by first | exact SubH.refl | exact SubH.app | exact SubH.both (by simp [subL])) ?_⟩; · omega)
            refine AAny.takes (fuel := 3) (by kernel_rfl) (by kernel_rfl) [9] (by kernel_rfl) (by kernel_rfl) ?_
            simp -dsimp -implicitDefEqProofs (disch := omega) [go_sem, -List.getD_eq_getElem?_getD, ite_yes, htp, ht, hc, hfl, hlt]
            refine AAny.one 2 14 (by kernel_rfl) (by kernel_rfl) (by kernel_rfl) ?_
            simp -dsimp -implicitDefEqProofs (disch := omega) [go_sem, -List.getD_eq_getElem?_getD, ite_yes, htp, ht, hc, hfl, hlt]
            first | refine ACall.of (hB ▸ l18Dry_A n ps hN cp l (by omega) c src hsrc [] (by simp) 0 0 _ tp t (H.length + 4) hP.app hS.app (IdS.of (Sl.nth 4 rfl rfl))) ?_ | refine ACall.of (hB ▸ l18Dry_A n ps hN cp l (by omega) c src hsrc [] (by simp) 0 0 _ tp t (H.length + 3) hP.app hS.app (IdS.of (Sl.nth 3 rfl rfl))) ?_
            simp -dsimp -implicitDefEqProofs (disch := omega) [go_sem, -List.getD_eq_getElem?_getD, ite_yes, htp, ht, hc, hfl, hlt]
            first | refine AAt.of (by first | exact SubH.refl | exact SubH.app | exact SubH.both (by simp [subL])) ?_ | (refine ⟨?_, AAt.of (by first | exact SubH.refl | exact SubH.app | exact SubH.both (by simp [subL])) ?_⟩; · omega)
            refine AAny.takes (fuel := 0) (by kernel_rfl) (by kernel_rfl) [15, 16] (by kernel_rfl) (by kernel_rfl) ?_
            simp -dsimp -implicitDefEqProofs (disch := omega) [go_sem, -List.getD_eq_getElem?_getD, ite_yes, htp, ht, hc, hfl, hlt]
            refine AAny.done (by kernel_rfl) ?_
            simp -dsimp -implicitDefEqProofs (disch := omega) [go_sem, -List.getD_eq_getElem?_getD, ite_yes, htp, ht, hc, hfl, hlt]
            exact ⟨weakS_mk [some 0, some 1, some 2] rfl (by simp -dsimp -implicitDefEqProofs (disch := omega) [go_sem, -List.getD_eq_getElem?_getD, ite_yes]; exact ⟨wl_net htp, .inl ⟨rfl, nmE_flat _⟩, .inl ⟨rfl, nmE_flat _⟩⟩) (by simp -dsimp -implicitDefEqProofs (disch := omega) [go_sem, -List.getD_eq_getElem?_getD, ite_yes, htp, ht])⟩
        · simp -dsimp -implicitDefEqProofs (disch := omega) [go_sem, -List.getD_eq_getElem?_getD, ite_yes, htp, ht, hc, hfl, hlt]
          first | refine AAt.of (by first | exact SubH.refl | exact SubH.app | exact SubH.both (by simp [subL])) ?_ | (refine ⟨?_, AAt.of (by first | exact SubH.refl | exact SubH.app | exact SubH.both (by simp [subL])) ?_⟩; · omega)
          refine AAny.two 6 0 10 (by kernel_rfl) (by kernel_rfl) (by kernel_rfl) ?_ ?_
          · simp -dsimp -implicitDefEqProofs (disch := omega) [go_sem, -List.getD_eq_getElem?_getD, ite_yes, htp, ht, hc, hfl, hlt]
            first | refine AAt.of (by first | exact SubH.refl | exact SubH.app | exact SubH.both (by simp [subL])) ?_ | (refine ⟨?_, AAt.of (by first | exact SubH.refl | exact SubH.app | exact SubH.both (by simp [subL])) ?_⟩; · omega)
            refine AAny.two 5 8 10 (by kernel_rfl) (by kernel_rfl) (by kernel_rfl) ?_ ?_
            · simp -dsimp -implicitDefEqProofs (disch := omega) [go_sem, -List.getD_eq_getElem?_getD, ite_yes, htp, ht, hc, hfl, hlt]
              refine ACall.of (l18Dry_A n ps hN cp l (by omega) c src hsrc [id] (by simp) 1 k _ tp t (H.length + 2) hP.app hS.app (hids _)) ?_
              simp -dsimp -implicitDefEqProofs (disch := omega) [go_sem, -List.getD_eq_getElem?_getD, ite_yes, htp, ht, hc, hfl, hlt]
              first | refine AAt.of (by first | exact SubH.refl | exact SubH.app | exact SubH.both (by simp [subL])) ?_ | (refine ⟨?_, AAt.of (by first | exact SubH.refl | exact SubH.app | exact SubH.both (by simp [subL])) ?_⟩; · omega)
              refine AAny.takes (fuel := 4) (by kernel_rfl) (by kernel_rfl) [9] (by kernel_rfl) (by kernel_rfl) ?_
              simp -dsimp -implicitDefEqProofs (disch := omega) [go_sem, -List.getD_eq_getElem?_getD, ite_yes, htp, ht, hc, hfl, hlt]
              refine AAny.one 3 10 (by kernel_rfl) (by kernel_rfl) (by kernel_rfl) ?_
              simp -dsimp -implicitDefEqProofs (disch := omega) [go_sem, -List.getD_eq_getElem?_getD, ite_yes, htp, ht, hc, hfl, hlt]
              first | refine AAt.of (by first | exact SubH.refl | exact SubH.app | exact SubH.both (by simp [subL])) ?_ | (refine ⟨?_, AAt.of (by first | exact SubH.refl | exact SubH.app | exact SubH.both (by simp [subL])) ?_⟩; · omega)
              refine AAny.one 2 14 (by kernel_rfl) (by kernel_rfl) (by kernel_rfl) ?_
              simp -dsimp -implicitDefEqProofs (disch := omega) [go_sem, -List.getD_eq_getElem?_getD, ite_yes, htp, ht, hc, hfl, hlt]
              first | refine ACall.of (hB ▸ l18Dry_A n ps hN cp l (by omega) c src hsrc [] (by simp) 0 0 _ tp t (H.length + 4) hP.app hS.app (IdS.of (Sl.nth 4 rfl rfl))) ?_ | refine ACall.of (hB ▸ l18Dry_A n ps hN cp l (by omega) c src hsrc [] (by simp) 0 0 _ tp t (H.length + 3) hP.app hS.app (IdS.of (Sl.nth 3 rfl rfl))) ?_
              simp -dsimp -implicitDefEqProofs (disch := omega) [go_sem, -List.getD_eq_getElem?_getD, ite_yes, htp, ht, hc, hfl, hlt]
              first | refine AAt.of (by first | exact SubH.refl | exact SubH.app | exact SubH.both (by simp [subL])) ?_ | (refine ⟨?_, AAt.of (by first | exact SubH.refl | exact SubH.app | exact SubH.both (by simp [subL])) ?_⟩; · omega)
              refine AAny.takes (fuel := 0) (by kernel_rfl) (by kernel_rfl) [15, 16] (by kernel_rfl) (by kernel_rfl) ?_
              simp -dsimp -implicitDefEqProofs (disch := omega) [go_sem, -List.getD_eq_getElem?_getD, ite_yes, htp, ht, hc, hfl, hlt]
              refine AAny.done (by kernel_rfl) ?_
              simp -dsimp -implicitDefEqProofs (disch := omega) [go_sem, -List.getD_eq_getElem?_getD, ite_yes, htp, ht, hc, hfl, hlt]
              exact ⟨weakS_mk [some 0, some 1, some 2] rfl (by simp -dsimp -implicitDefEqProofs (disch := omega) [go_sem, -List.getD_eq_getElem?_getD, ite_yes]; exact ⟨wl_net htp, .inl ⟨rfl, nmE_flat _⟩, .inl ⟨rfl, nmE_flat _⟩⟩) (by simp -dsimp -implicitDefEqProofs (disch := omega) [go_sem, -List.getD_eq_getElem?_getD, ite_yes, htp, ht])⟩
            · simp -dsimp -implicitDefEqProofs (disch := omega) [go_sem, -List.getD_eq_getElem?_getD, ite_yes, htp, ht, hc, hfl, hlt]
              first | refine AAt.of (by first | exact SubH.refl | exact SubH.app | exact SubH.both (by simp [subL])) ?_ | (refine ⟨?_, AAt.of (by first | exact SubH.refl | exact SubH.app | exact SubH.both (by simp [subL])) ?_⟩; · omega)
              refine AAny.one 4 8 (by kernel_rfl) (by kernel_rfl) (by kernel_rfl) ?_
              simp -dsimp -implicitDefEqProofs (disch := omega) [go_sem, -List.getD_eq_getElem?_getD, ite_yes, htp, ht, hc, hfl, hlt]
              refine ACall.of (l18Dry_A n ps hN cp l (by omega) c src hsrc [id] (by simp) 1 k _ tp t (H.length + 2) hP.app hS.app (hids _)) ?_
              simp -dsimp -implicitDefEqProofs (disch := omega) [go_sem, -List.getD_eq_getElem?_getD, ite_yes, htp, ht, hc, hfl, hlt]
              first | refine AAt.of (by first | exact SubH.refl | exact SubH.app | exact SubH.both (by simp [subL])) ?_ | (refine ⟨?_, AAt.of (by first | exact SubH.refl | exact SubH.app | exact SubH.both (by simp [subL])) ?_⟩; · omega)
              refine AAny.takes (fuel := 3) (by kernel_rfl) (by kernel_rfl) [9] (by kernel_rfl) (by kernel_rfl) ?_
              simp -dsimp -implicitDefEqProofs (disch := omega) [go_sem, -List.getD_eq_getElem?_getD, ite_yes, htp, ht, hc, hfl, hlt]
              refine AAny.one 2 14 (by kernel_rfl) (by kernel_rfl) (by kernel_rfl) ?_
              simp -dsimp -implicitDefEqProofs (disch := omega) [go_sem, -List.getD_eq_getElem?_getD, ite_yes, htp, ht, hc, hfl, hlt]
              first | refine ACall.of (hB ▸ l18Dry_A n ps hN cp l (by omega) c src hsrc [] (by simp) 0 0 _ tp t (H.length + 4) hP.app hS.app (IdS.of (Sl.nth 4 rfl rfl))) ?_ | refine ACall.of (hB ▸ l18Dry_A n ps hN cp l (by omega) c src hsrc [] (by simp) 0 0 _ tp t (H.length + 3) hP.app hS.app (IdS.of (Sl.nth 3 rfl rfl))) ?_
              simp -dsimp -implicitDefEqProofs (disch := omega) [go_sem, -List.getD_eq_getElem?_getD, ite_yes, htp, ht, hc, hfl, hlt]
              first | refine AAt.of (by first | exact SubH.refl | exact SubH.app | exact SubH.both (by simp [subL])) ?_ | (refine ⟨?_, AAt.of (by first | exact SubH.refl | exact SubH.app | exact SubH.both (by simp [subL])) ?_⟩; · omega)
              refine AAny.takes (fuel := 0) (by kernel_rfl) (by kernel_rfl) [15, 16] (by kernel_rfl) (by kernel_rfl) ?_
              simp -dsimp -implicitDefEqProofs (disch := omega) [go_sem, -List.getD_eq_getElem?_getD, ite_yes, htp, ht, hc, hfl, hlt]
              refine AAny.done (by kernel_rfl) ?_
              simp -dsimp -implicitDefEqProofs (disch := omega) [go_sem, -List.getD_eq_getElem?_getD, ite_yes, htp, ht, hc, hfl, hlt]
              exact ⟨weakS_mk [some 0, some 1, some 2] rfl (by simp -dsimp -implicitDefEqProofs (disch := omega) [go_sem, -List.getD_eq_getElem?_getD, ite_yes]; exact ⟨wl_net htp, .inl ⟨rfl, nmE_flat _⟩, .inl ⟨rfl, nmE_flat _⟩⟩) (by simp -dsimp -implicitDefEqProofs (disch := omega) [go_sem, -List.getD_eq_getElem?_getD, ite_yes, htp, ht])⟩
          · simp -dsimp -implicitDefEqProofs (disch := omega) [go_sem, -List.getD_eq_getElem?_getD, ite_yes, htp, ht, hc, hfl, hlt]
            first | refine AAt.of (by first | exact SubH.refl | exact SubH.app | exact SubH.both (by simp [subL])) ?_ | (refine ⟨?_, AAt.of (by first | exact SubH.refl | exact SubH.app | exact SubH.both (by simp [subL])) ?_⟩; · omega)
            refine AAny.one 5 0 (by kernel_rfl) (by kernel_rfl) (by kernel_rfl) ?_
            simp -dsimp -implicitDefEqProofs (disch := omega) [go_sem, -List.getD_eq_getElem?_getD, ite_yes, htp, ht, hc, hfl, hlt]
            first | refine AAt.of (by first | exact SubH.refl | exact SubH.app | exact SubH.both (by simp [subL])) ?_ | (refine ⟨?_, AAt.of (by first | exact SubH.refl | exact SubH.app | exact SubH.both (by simp [subL])) ?_⟩; · omega)
            refine AAny.one 4 8 (by kernel_rfl) (by kernel_rfl) (by kernel_rfl) ?_
            simp -dsimp -implicitDefEqProofs (disch := omega) [go_sem, -List.getD_eq_getElem?_getD, ite_yes, htp, ht, hc, hfl, hlt]
            refine ACall.of (l18Dry_A n ps hN cp l (by omega) c src hsrc [id] (by simp) 1 k _ tp t (H.length + 2) hP.app hS.app (hids _)) ?_
            simp -dsimp -implicitDefEqProofs (disch := omega) [go_sem, -List.getD_eq_getElem?_getD, ite_yes, htp, ht, hc, hfl, hlt]
            first | refine AAt.of (by first | exact SubH.refl | exact SubH.app | exact SubH.both (by simp [subL])) ?_ | (refine ⟨?_, AAt.of (by first | exact SubH.refl | exact SubH.app | exact SubH.both (by simp [subL])) ?_⟩; · omega)
            refine AAny.takes (fuel := 3) (by kernel_rfl) (by kernel_rfl) [9] (by kernel_rfl) (by kernel_rfl) ?_
            simp -dsimp -implicitDefEqProofs (disch := omega) [go_sem, -List.getD_eq_getElem?_getD, ite_yes, htp, ht, hc, hfl, hlt]
            refine AAny.one 2 14 (by kernel_rfl) (by kernel_rfl) (by kernel_rfl) ?_
            simp -dsimp -implicitDefEqProofs (disch := omega) [go_sem, -List.getD_eq_getElem?_getD, ite_yes, htp, ht, hc, hfl, hlt]
            first | refine ACall.of (hB ▸ l18Dry_A n ps hN cp l (by omega) c src hsrc [] (by simp) 0 0 _ tp t (H.length + 4) hP.app hS.app (IdS.of (Sl.nth 4 rfl rfl))) ?_ | refine ACall.of (hB ▸ l18Dry_A n ps hN cp l (by omega) c src hsrc [] (by simp) 0 0 _ tp t (H.length + 3) hP.app hS.app (IdS.of (Sl.nth 3 rfl rfl))) ?_
            simp -dsimp -implicitDefEqProofs (disch := omega) [go_sem, -List.getD_eq_getElem?_getD, ite_yes, htp, ht, hc, hfl, hlt]
            first | refine AAt.of (by first | exact SubH.refl | exact SubH.app | exact SubH.both (by simp [subL])) ?_ | (refine ⟨?_, AAt.of (by first | exact SubH.refl | exact SubH.app | exact SubH.both (by simp [subL])) ?_⟩; · omega)
            refine AAny.takes (fuel := 0) (by kernel_rfl) (by kernel_rfl) [15, 16] (by kernel_rfl) (by kernel_rfl) ?_
            simp -dsimp -implicitDefEqProofs (disch := omega) [go_sem, -List.getD_eq_getElem?_getD, ite_yes, htp, ht, hc, hfl, hlt]
            refine AAny.done (by kernel_rfl) ?_
            simp -dsimp -implicitDefEqProofs (disch := omega) [go_sem, -List.getD_eq_getElem?_getD, ite_yes, htp, ht, hc, hfl, hlt]
            exact ⟨weakS_mk [some 0, some 1, some 2] rfl (by simp -dsimp -implicitDefEqProofs (disch := omega) [go_sem, -List.getD_eq_getElem?_getD, ite_yes]; exact ⟨wl_net htp, .inl ⟨rfl, nmE_flat _⟩, .inl ⟨rfl, nmE_flat _⟩⟩) (by simp -dsimp -implicitDefEqProofs (disch := omega) [go_sem, -List.getD_eq_getElem?_getD, ite_yes, htp, ht])⟩
      · simp -dsimp -implicitDefEqProofs (disch := omega) [go_sem, -List.getD_eq_getElem?_getD, ite_yes, hlt, hfl, c1, hfs]
        refine LoopEnd.of (k + 1) (by omega) (by omega) (weakS_mk [some 0, some 1, some 2] rfl ?_ (by simp -dsimp -implicitDefEqProofs (disch := omega) [go_sem, -List.getD_eq_getElem?_getD, ite_yes, htp, ht, e]))
        simp -dsimp -implicitDefEqProofs (disch := omega) [go_sem, -List.getD_eq_getElem?_getD, ite_yes]
        exact ⟨wl_net htp, .inl ⟨by rw [e], nmE_flat _⟩, .inl ⟨rfl, nmE_flat _⟩⟩
  · obtain rfl : k = (shutL l).length := by omega
    simp -dsimp -implicitDefEqProofs (disch := omega) [go_sem, -List.getD_eq_getElem?_getD, ite_yes, hlt]
    refine fin_list [some 1] rfl ?_ (by simp -dsimp -implicitDefEqProofs (disch := omega) [go_sem, -List.getD_eq_getElem?_getD, ite_yes, useL])
    simp -dsimp -implicitDefEqProofs (disch := omega) [go_sem, -List.getD_eq_getElem?_getD, ite_yes, useL]
    exact .inl ⟨rfl, nmE_flat _⟩
theorem useL_small {n : Int} {ps : List Pp} (l : List Vl) (src : Int) (h : (shutL l).length ≤ 6) : (useL n ps l src).length ≤ 1048577 := by
  have := useTo_length n ps l src (shutL l).length
  unfold useL
  omega
theorem lawUsefulValves_A (n : Int) (ps : List Pp) (hl0 : ps.length ≤ 9223372036854775807) (c0 : Nat) (l : List Vl) (hl1 : l.length ≤ 9223372036854775807) (c1 : Nat) (src : Int) (H : Heap) (t0 : Nat) (hS0 : Sl ppE H t0 ps) (t1 : Nat) (hS1 : Sl vlE H t1 l) :
    AFunC Try.prog 4 [netV n t0 ps.length c0, .slice (some ⟨t1, 0, none⟩) l.length c1, .int .i64 src] H (.bool true) H := by
  refine AFunC.of_body Try.func4 (by kernel_rfl) rfl (by kernel_rfl) (by simp [Try.ntmps4]) ?_
  have ht0 := hS0.lt
  have ht1 := hS1.lt
  simp -dsimp -implicitDefEqProofs (disch := omega) [go_sem, -List.getD_eq_getElem?_getD, ite_yes, ht0, ht1]
  refine ACall.of (szNet_A n ps.length c0 (by omega) _ (by omega) (by omega) t0 _) ?_
  simp -dsimp -implicitDefEqProofs (disch := omega) [go_sem, -List.getD_eq_getElem?_getD, ite_yes, ht0, ht1]
  refine AIf.of (fun h => ?_) (fun h => ?_)
  · simp -dsimp -implicitDefEqProofs (disch := omega) [go_sem, -List.getD_eq_getElem?_getD, ite_yes]
    first | exact fin_flat0 rfl rfl | exact fin_flat rfl rfl
  have hlen0 : ps.length ≤ 1048577 := by
    have := szPp_len (by simpa using h)
    omega
  simp -dsimp -implicitDefEqProofs (disch := omega) [go_sem, -List.getD_eq_getElem?_getD, ite_yes, ht0, ht1]
  have hz0 : 0 ≤ szPp ps.length 1048576 ∧ szPp ps.length 1048576 ≤ 1048576 := szPp_rng (by simpa using h) (by omega)
  refine ACall.of (szVl_A l.length c1 (by omega) _ (by omega) (by omega) t1 _) ?_
  simp -dsimp -implicitDefEqProofs (disch := omega) [go_sem, -List.getD_eq_getElem?_getD, ite_yes, ht0, ht1]
  refine AIf.of (fun h => ?_) (fun h => ?_)
  · simp -dsimp -implicitDefEqProofs (disch := omega) [go_sem, -List.getD_eq_getElem?_getD, ite_yes]
    first | exact fin_flat0 rfl rfl | exact fin_flat rfl rfl
  have hlen1 : l.length ≤ 1048577 := by
    have := szVl_len (by simpa using h)
    omega
  simp -dsimp -implicitDefEqProofs (disch := omega) [go_sem, -List.getD_eq_getElem?_getD, ite_yes, ht0, ht1]
  rcases Bool.eq_false_or_eq_true (askR n ps l src) with hg | hg
  · have hu := useL_small (n := n) (ps := ps) l src (askR_at hg).2.2.2.2
    refine ACall.of (toNet_A n ps hlen0 c0 _ t0 hS0.app) ?_
    simp -dsimp -implicitDefEqProofs (disch := omega) [go_sem, -List.getD_eq_getElem?_getD, ite_yes, ht0, ht1]
    refine ACall.of (toVlS_A l hlen1 c1 _ t1 hS1.app) ?_
    simp -dsimp -implicitDefEqProofs (disch := omega) [go_sem, -List.getD_eq_getElem?_getD, ite_yes, ht0, ht1]
    refine ACall.of (sUseful_good n ps _ l _ src hg _ _ _ (Sl.nth 1 rfl rfl) (Sl.nth 2 rfl rfl)) ?_
    simp -dsimp -implicitDefEqProofs (disch := omega) [go_sem, -List.getD_eq_getElem?_getD, ite_yes, ht0, ht1]
    refine ACall.of (toNet_A n ps hlen0 c0 _ t0 hS0.app) ?_
    simp -dsimp -implicitDefEqProofs (disch := omega) [go_sem, -List.getD_eq_getElem?_getD, ite_yes, ht0, ht1]
    refine ACall.of (toVlS_A l hlen1 c1 _ t1 hS1.app) ?_
    simp -dsimp -implicitDefEqProofs (disch := omega) [go_sem, -List.getD_eq_getElem?_getD, ite_yes, ht0, ht1]
    refine ACall.of (iUseful_good n ps _ l _ src hg _ _ _ (Sl.nth 4 rfl rfl) (Sl.nth 6 rfl rfl)) ?_
    simp -dsimp -implicitDefEqProofs (disch := omega) [go_sem, -List.getD_eq_getElem?_getD, ite_yes, ht0, ht1]
    refine ACall.of (eqNmS_A (useL n ps l src) (useL n ps l src) hu hu _ _ _ _ _ (Sl.nth 7 rfl rfl) (Sl.nth 3 rfl rfl)) ?_
    simp -dsimp -implicitDefEqProofs (disch := omega) [go_sem, -List.getD_eq_getElem?_getD, ite_yes, ht0, ht1]
    refine ADraw.any _ (by kernel_rfl) (SubH.refl) ?_
    refine AAny.two 4 0 1 (by kernel_rfl) (by kernel_rfl) (by kernel_rfl) ?_ ?_
    · simp -dsimp -implicitDefEqProofs (disch := omega) [go_sem, -List.getD_eq_getElem?_getD, ite_yes, ht0, ht1]
      first | refine AAt.of (by first | exact SubH.refl | exact SubH.app | exact SubH.both (by simp [subL])) ?_ | (refine ⟨?_, AAt.of (by first | exact SubH.refl | exact SubH.app | exact SubH.both (by simp [subL])) ?_⟩; · omega)
      refine AAny.one 3 1 (by kernel_rfl) (by kernel_rfl) (by kernel_rfl) ?_
      simp -dsimp -implicitDefEqProofs (disch := omega) [go_sem, -List.getD_eq_getElem?_getD, ite_yes, ht0, ht1]
      first | refine AAt.of (by first | exact SubH.refl | exact SubH.app | exact SubH.both (by simp [subL])) ?_ | (refine ⟨?_, AAt.of (by first | exact SubH.refl | exact SubH.app | exact SubH.both (by simp [subL])) ?_⟩; · omega)
      refine AAny.one 2 2 (by kernel_rfl) (by kernel_rfl) (by kernel_rfl) ?_
      simp -dsimp -implicitDefEqProofs (disch := omega) [go_sem, -List.getD_eq_getElem?_getD, ite_yes, ht0, ht1]
      refine ACall.of (toNet_A n ps hlen0 c0 _ t0 hS0.app) ?_
      simp -dsimp -implicitDefEqProofs (disch := omega) [go_sem, -List.getD_eq_getElem?_getD, ite_yes, ht0, ht1]
      first | refine AAt.of (by first | exact SubH.refl | exact SubH.app | exact SubH.both (by simp [subL])) ?_ | (refine ⟨?_, AAt.of (by first | exact SubH.refl | exact SubH.app | exact SubH.both (by simp [subL])) ?_⟩; · omega)
      refine AAny.one 1 3 (by kernel_rfl) (by kernel_rfl) (by kernel_rfl) ?_
      simp -dsimp -implicitDefEqProofs (disch := omega) [go_sem, -List.getD_eq_getElem?_getD, ite_yes, ht0, ht1]
      refine ACall.of (eqNet_A n n ps ps hlen0 hlen0 _ _ _ _ _ (Sl.nth 4 rfl rfl) (Sl.nth 8 rfl rfl)) ?_
      simp -dsimp -implicitDefEqProofs (disch := omega) [go_sem, -List.getD_eq_getElem?_getD, ite_yes, ht0, ht1]
      first | refine AAt.of (by first | exact SubH.refl | exact SubH.app | exact SubH.both (by simp [subL])) ?_ | (refine ⟨?_, AAt.of (by first | exact SubH.refl | exact SubH.app | exact SubH.both (by simp [subL])) ?_⟩; · omega)
      refine AAny.takes (fuel := 0) (by kernel_rfl) (by kernel_rfl) [4] (by kernel_rfl) (by kernel_rfl) ?_
      simp -dsimp -implicitDefEqProofs (disch := omega) [go_sem, -List.getD_eq_getElem?_getD, ite_yes, ht0, ht1]
      refine AAny.done (by kernel_rfl) ?_
      simp -dsimp -implicitDefEqProofs (disch := omega) [go_sem, -List.getD_eq_getElem?_getD, ite_yes, ht0, ht1]
      refine ACall.of (toVlS_A l hlen1 c1 _ t1 hS1.app) ?_
      simp -dsimp -implicitDefEqProofs (disch := omega) [go_sem, -List.getD_eq_getElem?_getD, ite_yes, ht0, ht1]
      refine ACall.of (eqVlS_A l l hlen1 hlen1 _ _ _ _ _ (Sl.nth 6 rfl rfl) (Sl.nth 9 rfl rfl)) ?_
      simp -dsimp -implicitDefEqProofs (disch := omega) [go_sem, -List.getD_eq_getElem?_getD, ite_yes, ht0, ht1]
      refine ACall.of (markNet_A n ps hlen0 _ _ _ (by omega) (by omega) _ _ ((Heap.get_len_add _ _ 4).trans rfl)) ?_
      simp -dsimp -implicitDefEqProofs (disch := omega) [go_sem, -List.getD_eq_getElem?_getD, ite_yes, ht0, ht1]
      refine ACall.of (markVlS_A l hlen1 _ _ _ (by omega) (by omega) _ _ ((Heap.get_len_add _ _ 6).trans rfl)) ?_
      simp -dsimp -implicitDefEqProofs (disch := omega) [go_sem, -List.getD_eq_getElem?_getD, ite_yes, ht0, ht1]
      refine AIf.of (fun h => absurd (of_decide_eq_true h) (by omega)) (fun _ => ?_)
      simp -dsimp -implicitDefEqProofs (disch := omega) [go_sem, -List.getD_eq_getElem?_getD, ite_yes, ht0, ht1]
      refine ACall.of (eqNmS_A (useL n ps l src) (useL n ps l src) hu hu _ _ _ _ _ (Sl.nth 7 rfl rfl) (Sl.nth 3 rfl rfl)) ?_
      simp -dsimp -implicitDefEqProofs (disch := omega) [go_sem, -List.getD_eq_getElem?_getD, ite_yes, ht0, ht1]
      refine ACall.of (markNmS_A (useL n ps l src) hu _ _ _ (by omega) (by omega) _ _ ((Heap.get_len_add _ _ 7).trans rfl)) ?_
      simp -dsimp -implicitDefEqProofs (disch := omega) [go_sem, -List.getD_eq_getElem?_getD, ite_yes, ht0, ht1]
      refine ACall.of (heldNmS_A _ hu _ _ (by omega) (by omega) _ _ (Sl.nth 7 rfl rfl)) ?_
      simp -dsimp -implicitDefEqProofs (disch := omega) [go_sem, -List.getD_eq_getElem?_getD, ite_yes, ht0, ht1]
      refine AIf.of (fun h => absurd (of_decide_eq_true h) (by omega)) (fun _ => ?_)
      simp -dsimp -implicitDefEqProofs (disch := omega) [go_sem, -List.getD_eq_getElem?_getD, ite_yes, ht0, ht1]
      refine ACall.of (toNet_A n ps hlen0 c0 _ t0 hS0.app) ?_
      simp -dsimp -implicitDefEqProofs (disch := omega) [go_sem, -List.getD_eq_getElem?_getD, ite_yes, ht0, ht1]
      refine ACall.of (toVlS_A l hlen1 c1 _ t1 hS1.app) ?_
      simp -dsimp -implicitDefEqProofs (disch := omega) [go_sem, -List.getD_eq_getElem?_getD, ite_yes, ht0, ht1]
      refine ACall.of (iUseful_good n ps _ l _ src hg _ _ _ (Sl.nth 10 rfl rfl) (Sl.nth 11 rfl rfl)) ?_
      simp -dsimp -implicitDefEqProofs (disch := omega) [go_sem, -List.getD_eq_getElem?_getD, ite_yes, ht0, ht1]
      refine ACall.of (eqNmS_A (useL n ps l src) (useL n ps l src) hu hu _ _ _ _ _ (Sl.nth 12 rfl rfl) (Sl.nth 3 rfl rfl)) ?_
      simp -dsimp -implicitDefEqProofs (disch := omega) [go_sem, -List.getD_eq_getElem?_getD, ite_yes, ht0, ht1]
      refine ACall.of (heldNmS_A _ hu _ _ (by omega) (by omega) _ _ (Sl.nth 7 rfl rfl)) ?_
      simp -dsimp -implicitDefEqProofs (disch := omega) [go_sem, -List.getD_eq_getElem?_getD, ite_yes, ht0, ht1]
      refine AIf.of (fun h => absurd (of_decide_eq_true h) (by omega)) (fun _ => ?_)
      simp -dsimp -implicitDefEqProofs (disch := omega) [go_sem, -List.getD_eq_getElem?_getD, ite_yes, ht0, ht1]
      exact fin_flat rfl rfl
    · simp -dsimp -implicitDefEqProofs (disch := omega) [go_sem, -List.getD_eq_getElem?_getD, ite_yes, ht0, ht1]
      first | refine AAt.of (by first | exact SubH.refl | exact SubH.app | exact SubH.both (by simp [subL])) ?_ | (refine ⟨?_, AAt.of (by first | exact SubH.refl | exact SubH.app | exact SubH.both (by simp [subL])) ?_⟩; · omega)
      refine AAny.two 3 0 2 (by kernel_rfl) (by kernel_rfl) (by kernel_rfl) ?_ ?_
      · simp -dsimp -implicitDefEqProofs (disch := omega) [go_sem, -List.getD_eq_getElem?_getD, ite_yes, ht0, ht1]
        first | refine AAt.of (by first | exact SubH.refl | exact SubH.app | exact SubH.both (by simp [subL])) ?_ | (refine ⟨?_, AAt.of (by first | exact SubH.refl | exact SubH.app | exact SubH.both (by simp [subL])) ?_⟩; · omega)
        refine AAny.one 2 2 (by kernel_rfl) (by kernel_rfl) (by kernel_rfl) ?_
        simp -dsimp -implicitDefEqProofs (disch := omega) [go_sem, -List.getD_eq_getElem?_getD, ite_yes, ht0, ht1]
        refine ACall.of (toNet_A n ps hlen0 c0 _ t0 hS0.app) ?_
        simp -dsimp -implicitDefEqProofs (disch := omega) [go_sem, -List.getD_eq_getElem?_getD, ite_yes, ht0, ht1]
        first | refine AAt.of (by first | exact SubH.refl | exact SubH.app | exact SubH.both (by simp [subL])) ?_ | (refine ⟨?_, AAt.of (by first | exact SubH.refl | exact SubH.app | exact SubH.both (by simp [subL])) ?_⟩; · omega)
        refine AAny.one 1 3 (by kernel_rfl) (by kernel_rfl) (by kernel_rfl) ?_
        simp -dsimp -implicitDefEqProofs (disch := omega) [go_sem, -List.getD_eq_getElem?_getD, ite_yes, ht0, ht1]
        refine ACall.of (eqNet_A n n ps ps hlen0 hlen0 _ _ _ _ _ (Sl.nth 4 rfl rfl) (Sl.nth 8 rfl rfl)) ?_
        simp -dsimp -implicitDefEqProofs (disch := omega) [go_sem, -List.getD_eq_getElem?_getD, ite_yes, ht0, ht1]
        first | refine AAt.of (by first | exact SubH.refl | exact SubH.app | exact SubH.both (by simp [subL])) ?_ | (refine ⟨?_, AAt.of (by first | exact SubH.refl | exact SubH.app | exact SubH.both (by simp [subL])) ?_⟩; · omega)
        refine AAny.takes (fuel := 0) (by kernel_rfl) (by kernel_rfl) [4] (by kernel_rfl) (by kernel_rfl) ?_
        simp -dsimp -implicitDefEqProofs (disch := omega) [go_sem, -List.getD_eq_getElem?_getD, ite_yes, ht0, ht1]
        refine AAny.done (by kernel_rfl) ?_
        simp -dsimp -implicitDefEqProofs (disch := omega) [go_sem, -List.getD_eq_getElem?_getD, ite_yes, ht0, ht1]
        refine ACall.of (toVlS_A l hlen1 c1 _ t1 hS1.app) ?_
        simp -dsimp -implicitDefEqProofs (disch := omega) [go_sem, -List.getD_eq_getElem?_getD, ite_yes, ht0, ht1]
        refine ACall.of (eqVlS_A l l hlen1 hlen1 _ _ _ _ _ (Sl.nth 6 rfl rfl) (Sl.nth 9 rfl rfl)) ?_
        simp -dsimp -implicitDefEqProofs (disch := omega) [go_sem, -List.getD_eq_getElem?_getD, ite_yes, ht0, ht1]
        refine ACall.of (markNet_A n ps hlen0 _ _ _ (by omega) (by omega) _ _ ((Heap.get_len_add _ _ 4).trans rfl)) ?_
        simp -dsimp -implicitDefEqProofs (disch := omega) [go_sem, -List.getD_eq_getElem?_getD, ite_yes, ht0, ht1]
        refine ACall.of (markVlS_A l hlen1 _ _ _ (by omega) (by omega) _ _ ((Heap.get_len_add _ _ 6).trans rfl)) ?_
        simp -dsimp -implicitDefEqProofs (disch := omega) [go_sem, -List.getD_eq_getElem?_getD, ite_yes, ht0, ht1]
        refine AIf.of (fun h => absurd (of_decide_eq_true h) (by omega)) (fun _ => ?_)
        simp -dsimp -implicitDefEqProofs (disch := omega) [go_sem, -List.getD_eq_getElem?_getD, ite_yes, ht0, ht1]
        refine ACall.of (eqNmS_A (useL n ps l src) (useL n ps l src) hu hu _ _ _ _ _ (Sl.nth 7 rfl rfl) (Sl.nth 3 rfl rfl)) ?_
        simp -dsimp -implicitDefEqProofs (disch := omega) [go_sem, -List.getD_eq_getElem?_getD, ite_yes, ht0, ht1]
        refine ACall.of (markNmS_A (useL n ps l src) hu _ _ _ (by omega) (by omega) _ _ ((Heap.get_len_add _ _ 7).trans rfl)) ?_
        simp -dsimp -implicitDefEqProofs (disch := omega) [go_sem, -List.getD_eq_getElem?_getD, ite_yes, ht0, ht1]
        refine ACall.of (heldNmS_A _ hu _ _ (by omega) (by omega) _ _ (Sl.nth 7 rfl rfl)) ?_
        simp -dsimp -implicitDefEqProofs (disch := omega) [go_sem, -List.getD_eq_getElem?_getD, ite_yes, ht0, ht1]
        refine AIf.of (fun h => absurd (of_decide_eq_true h) (by omega)) (fun _ => ?_)
        simp -dsimp -implicitDefEqProofs (disch := omega) [go_sem, -List.getD_eq_getElem?_getD, ite_yes, ht0, ht1]
        refine ACall.of (toNet_A n ps hlen0 c0 _ t0 hS0.app) ?_
        simp -dsimp -implicitDefEqProofs (disch := omega) [go_sem, -List.getD_eq_getElem?_getD, ite_yes, ht0, ht1]
        refine ACall.of (toVlS_A l hlen1 c1 _ t1 hS1.app) ?_
        simp -dsimp -implicitDefEqProofs (disch := omega) [go_sem, -List.getD_eq_getElem?_getD, ite_yes, ht0, ht1]
        refine ACall.of (iUseful_good n ps _ l _ src hg _ _ _ (Sl.nth 10 rfl rfl) (Sl.nth 11 rfl rfl)) ?_
        simp -dsimp -implicitDefEqProofs (disch := omega) [go_sem, -List.getD_eq_getElem?_getD, ite_yes, ht0, ht1]
        refine ACall.of (eqNmS_A (useL n ps l src) (useL n ps l src) hu hu _ _ _ _ _ (Sl.nth 12 rfl rfl) (Sl.nth 3 rfl rfl)) ?_
        simp -dsimp -implicitDefEqProofs (disch := omega) [go_sem, -List.getD_eq_getElem?_getD, ite_yes, ht0, ht1]
        refine ACall.of (heldNmS_A _ hu _ _ (by omega) (by omega) _ _ (Sl.nth 7 rfl rfl)) ?_
        simp -dsimp -implicitDefEqProofs (disch := omega) [go_sem, -List.getD_eq_getElem?_getD, ite_yes, ht0, ht1]
        refine AIf.of (fun h => absurd (of_decide_eq_true h) (by omega)) (fun _ => ?_)
        simp -dsimp -implicitDefEqProofs (disch := omega) [go_sem, -List.getD_eq_getElem?_getD, ite_yes, ht0, ht1]
        exact fin_flat rfl rfl
      · simp -dsimp -implicitDefEqProofs (disch := omega) [go_sem, -List.getD_eq_getElem?_getD, ite_yes, ht0, ht1]
        refine ACall.of (toNet_A n ps hlen0 c0 _ t0 hS0.app) ?_
        simp -dsimp -implicitDefEqProofs (disch := omega) [go_sem, -List.getD_eq_getElem?_getD, ite_yes, ht0, ht1]
        first | refine AAt.of (by first | exact SubH.refl | exact SubH.app | exact SubH.both (by simp [subL])) ?_ | (refine ⟨?_, AAt.of (by first | exact SubH.refl | exact SubH.app | exact SubH.both (by simp [subL])) ?_⟩; · omega)
        refine AAny.one 2 0 (by kernel_rfl) (by kernel_rfl) (by kernel_rfl) ?_
        simp -dsimp -implicitDefEqProofs (disch := omega) [go_sem, -List.getD_eq_getElem?_getD, ite_yes, ht0, ht1]
        first | refine AAt.of (by first | exact SubH.refl | exact SubH.app | exact SubH.both (by simp [subL])) ?_ | (refine ⟨?_, AAt.of (by first | exact SubH.refl | exact SubH.app | exact SubH.both (by simp [subL])) ?_⟩; · omega)
        refine AAny.one 1 3 (by kernel_rfl) (by kernel_rfl) (by kernel_rfl) ?_
        simp -dsimp -implicitDefEqProofs (disch := omega) [go_sem, -List.getD_eq_getElem?_getD, ite_yes, ht0, ht1]
        refine ACall.of (eqNet_A n n ps ps hlen0 hlen0 _ _ _ _ _ (Sl.nth 4 rfl rfl) (Sl.nth 8 rfl rfl)) ?_
        simp -dsimp -implicitDefEqProofs (disch := omega) [go_sem, -List.getD_eq_getElem?_getD, ite_yes, ht0, ht1]
        first | refine AAt.of (by first | exact SubH.refl | exact SubH.app | exact SubH.both (by simp [subL])) ?_ | (refine ⟨?_, AAt.of (by first | exact SubH.refl | exact SubH.app | exact SubH.both (by simp [subL])) ?_⟩; · omega)
        refine AAny.takes (fuel := 0) (by kernel_rfl) (by kernel_rfl) [4] (by kernel_rfl) (by kernel_rfl) ?_
        simp -dsimp -implicitDefEqProofs (disch := omega) [go_sem, -List.getD_eq_getElem?_getD, ite_yes, ht0, ht1]
        refine AAny.done (by kernel_rfl) ?_
        simp -dsimp -implicitDefEqProofs (disch := omega) [go_sem, -List.getD_eq_getElem?_getD, ite_yes, ht0, ht1]
        refine ACall.of (toVlS_A l hlen1 c1 _ t1 hS1.app) ?_
        simp -dsimp -implicitDefEqProofs (disch := omega) [go_sem, -List.getD_eq_getElem?_getD, ite_yes, ht0, ht1]
        refine ACall.of (eqVlS_A l l hlen1 hlen1 _ _ _ _ _ (Sl.nth 6 rfl rfl) (Sl.nth 9 rfl rfl)) ?_
        simp -dsimp -implicitDefEqProofs (disch := omega) [go_sem, -List.getD_eq_getElem?_getD, ite_yes, ht0, ht1]
        refine ACall.of (markNet_A n ps hlen0 _ _ _ (by omega) (by omega) _ _ ((Heap.get_len_add _ _ 4).trans rfl)) ?_
        simp -dsimp -implicitDefEqProofs (disch := omega) [go_sem, -List.getD_eq_getElem?_getD, ite_yes, ht0, ht1]
        refine ACall.of (markVlS_A l hlen1 _ _ _ (by omega) (by omega) _ _ ((Heap.get_len_add _ _ 6).trans rfl)) ?_
        simp -dsimp -implicitDefEqProofs (disch := omega) [go_sem, -List.getD_eq_getElem?_getD, ite_yes, ht0, ht1]
        refine AIf.of (fun h => absurd (of_decide_eq_true h) (by omega)) (fun _ => ?_)
        simp -dsimp -implicitDefEqProofs (disch := omega) [go_sem, -List.getD_eq_getElem?_getD, ite_yes, ht0, ht1]
        refine ACall.of (eqNmS_A (useL n ps l src) (useL n ps l src) hu hu _ _ _ _ _ (Sl.nth 7 rfl rfl) (Sl.nth 3 rfl rfl)) ?_
        simp -dsimp -implicitDefEqProofs (disch := omega) [go_sem, -List.getD_eq_getElem?_getD, ite_yes, ht0, ht1]
        refine ACall.of (markNmS_A (useL n ps l src) hu _ _ _ (by omega) (by omega) _ _ ((Heap.get_len_add _ _ 7).trans rfl)) ?_
        simp -dsimp -implicitDefEqProofs (disch := omega) [go_sem, -List.getD_eq_getElem?_getD, ite_yes, ht0, ht1]
        refine ACall.of (heldNmS_A _ hu _ _ (by omega) (by omega) _ _ (Sl.nth 7 rfl rfl)) ?_
        simp -dsimp -implicitDefEqProofs (disch := omega) [go_sem, -List.getD_eq_getElem?_getD, ite_yes, ht0, ht1]
        refine AIf.of (fun h => absurd (of_decide_eq_true h) (by omega)) (fun _ => ?_)
        simp -dsimp -implicitDefEqProofs (disch := omega) [go_sem, -List.getD_eq_getElem?_getD, ite_yes, ht0, ht1]
        refine ACall.of (toNet_A n ps hlen0 c0 _ t0 hS0.app) ?_
        simp -dsimp -implicitDefEqProofs (disch := omega) [go_sem, -List.getD_eq_getElem?_getD, ite_yes, ht0, ht1]
        refine ACall.of (toVlS_A l hlen1 c1 _ t1 hS1.app) ?_
        simp -dsimp -implicitDefEqProofs (disch := omega) [go_sem, -List.getD_eq_getElem?_getD, ite_yes, ht0, ht1]
        refine ACall.of (iUseful_good n ps _ l _ src hg _ _ _ (Sl.nth 10 rfl rfl) (Sl.nth 11 rfl rfl)) ?_
        simp -dsimp -implicitDefEqProofs (disch := omega) [go_sem, -List.getD_eq_getElem?_getD, ite_yes, ht0, ht1]
        refine ACall.of (eqNmS_A (useL n ps l src) (useL n ps l src) hu hu _ _ _ _ _ (Sl.nth 12 rfl rfl) (Sl.nth 3 rfl rfl)) ?_
        simp -dsimp -implicitDefEqProofs (disch := omega) [go_sem, -List.getD_eq_getElem?_getD, ite_yes, ht0, ht1]
        refine ACall.of (heldNmS_A _ hu _ _ (by omega) (by omega) _ _ (Sl.nth 7 rfl rfl)) ?_
        simp -dsimp -implicitDefEqProofs (disch := omega) [go_sem, -List.getD_eq_getElem?_getD, ite_yes, ht0, ht1]
        refine AIf.of (fun h => absurd (of_decide_eq_true h) (by omega)) (fun _ => ?_)
        simp -dsimp -implicitDefEqProofs (disch := omega) [go_sem, -List.getD_eq_getElem?_getD, ite_yes, ht0, ht1]
        exact fin_flat rfl rfl
  · refine ACall.of (toNet_A n ps hlen0 c0 _ t0 hS0.app) ?_
    simp -dsimp -implicitDefEqProofs (disch := omega) [go_sem, -List.getD_eq_getElem?_getD, ite_yes, ht0, ht1]
    refine ACall.of (toVlS_A l hlen1 c1 _ t1 hS1.app) ?_
    simp -dsimp -implicitDefEqProofs (disch := omega) [go_sem, -List.getD_eq_getElem?_getD, ite_yes, ht0, ht1]
    refine ACall.of (sUseful_bad n ps hlen0 _ l hlen1 _ src hg _ _ _ (Sl.nth 1 rfl rfl) (Sl.nth 2 rfl rfl)) ?_
    simp -dsimp -implicitDefEqProofs (disch := omega) [go_sem, -List.getD_eq_getElem?_getD, ite_yes, ht0, ht1]
    refine ACall.of (toNet_A n ps hlen0 c0 _ t0 hS0.app) ?_
    simp -dsimp -implicitDefEqProofs (disch := omega) [go_sem, -List.getD_eq_getElem?_getD, ite_yes, ht0, ht1]
    refine ACall.of (toVlS_A l hlen1 c1 _ t1 hS1.app) ?_
    simp -dsimp -implicitDefEqProofs (disch := omega) [go_sem, -List.getD_eq_getElem?_getD, ite_yes, ht0, ht1]
    refine ACall.of (iUseful_bad n ps hlen0 _ l hlen1 _ src hg _ _ _ (Sl.nth 4 rfl rfl) (Sl.nth 6 rfl rfl)) ?_
    simp -dsimp -implicitDefEqProofs (disch := omega) [go_sem, -List.getD_eq_getElem?_getD, ite_yes, ht0, ht1]
    refine ACall.of (eqNmS_nil _ _ _) ?_
    simp -dsimp -implicitDefEqProofs (disch := omega) [go_sem, -List.getD_eq_getElem?_getD, ite_yes, ht0, ht1]
    refine ADraw.any _ (by kernel_rfl) (SubH.refl) ?_
    refine AAny.two 4 0 1 (by kernel_rfl) (by kernel_rfl) (by kernel_rfl) ?_ ?_
    · simp -dsimp -implicitDefEqProofs (disch := omega) [go_sem, -List.getD_eq_getElem?_getD, ite_yes, ht0, ht1]
      first | refine AAt.of (by first | exact SubH.refl | exact SubH.app | exact SubH.both (by simp [subL])) ?_ | (refine ⟨?_, AAt.of (by first | exact SubH.refl | exact SubH.app | exact SubH.both (by simp [subL])) ?_⟩; · omega)
      refine AAny.one 3 1 (by kernel_rfl) (by kernel_rfl) (by kernel_rfl) ?_
      simp -dsimp -implicitDefEqProofs (disch := omega) [go_sem, -List.getD_eq_getElem?_getD, ite_yes, ht0, ht1]
      first | refine AAt.of (by first | exact SubH.refl | exact SubH.app | exact SubH.both (by simp [subL])) ?_ | (refine ⟨?_, AAt.of (by first | exact SubH.refl | exact SubH.app | exact SubH.both (by simp [subL])) ?_⟩; · omega)
      refine AAny.one 2 2 (by kernel_rfl) (by kernel_rfl) (by kernel_rfl) ?_
      simp -dsimp -implicitDefEqProofs (disch := omega) [go_sem, -List.getD_eq_getElem?_getD, ite_yes, ht0, ht1]
      refine ACall.of (toNet_A n ps hlen0 c0 _ t0 hS0.app) ?_
      simp -dsimp -implicitDefEqProofs (disch := omega) [go_sem, -List.getD_eq_getElem?_getD, ite_yes, ht0, ht1]
      first | refine AAt.of (by first | exact SubH.refl | exact SubH.app | exact SubH.both (by simp [subL])) ?_ | (refine ⟨?_, AAt.of (by first | exact SubH.refl | exact SubH.app | exact SubH.both (by simp [subL])) ?_⟩; · omega)
      refine AAny.one 1 3 (by kernel_rfl) (by kernel_rfl) (by kernel_rfl) ?_
      simp -dsimp -implicitDefEqProofs (disch := omega) [go_sem, -List.getD_eq_getElem?_getD, ite_yes, ht0, ht1]
      refine ACall.of (eqNet_A n n ps ps hlen0 hlen0 _ _ _ _ _ (Sl.nth 4 rfl rfl) (Sl.nth 7 rfl rfl)) ?_
      simp -dsimp -implicitDefEqProofs (disch := omega) [go_sem, -List.getD_eq_getElem?_getD, ite_yes, ht0, ht1]
      first | refine AAt.of (by first | exact SubH.refl | exact SubH.app | exact SubH.both (by simp [subL])) ?_ | (refine ⟨?_, AAt.of (by first | exact SubH.refl | exact SubH.app | exact SubH.both (by simp [subL])) ?_⟩; · omega)
      refine AAny.takes (fuel := 0) (by kernel_rfl) (by kernel_rfl) [4] (by kernel_rfl) (by kernel_rfl) ?_
      simp -dsimp -implicitDefEqProofs (disch := omega) [go_sem, -List.getD_eq_getElem?_getD, ite_yes, ht0, ht1]
      refine AAny.done (by kernel_rfl) ?_
      simp -dsimp -implicitDefEqProofs (disch := omega) [go_sem, -List.getD_eq_getElem?_getD, ite_yes, ht0, ht1]
      refine ACall.of (toVlS_A l hlen1 c1 _ t1 hS1.app) ?_
      simp -dsimp -implicitDefEqProofs (disch := omega) [go_sem, -List.getD_eq_getElem?_getD, ite_yes, ht0, ht1]
      refine ACall.of (eqVlS_A l l hlen1 hlen1 _ _ _ _ _ (Sl.nth 6 rfl rfl) (Sl.nth 8 rfl rfl)) ?_
      simp -dsimp -implicitDefEqProofs (disch := omega) [go_sem, -List.getD_eq_getElem?_getD, ite_yes, ht0, ht1]
      refine ACall.of (markNet_A n ps hlen0 _ _ _ (by omega) (by omega) _ _ ((Heap.get_len_add _ _ 4).trans rfl)) ?_
      simp -dsimp -implicitDefEqProofs (disch := omega) [go_sem, -List.getD_eq_getElem?_getD, ite_yes, ht0, ht1]
      refine ACall.of (markVlS_A l hlen1 _ _ _ (by omega) (by omega) _ _ ((Heap.get_len_add _ _ 6).trans rfl)) ?_
      simp -dsimp -implicitDefEqProofs (disch := omega) [go_sem, -List.getD_eq_getElem?_getD, ite_yes, ht0, ht1]
      refine AIf.of (fun h => absurd (of_decide_eq_true h) (by omega)) (fun _ => ?_)
      simp -dsimp -implicitDefEqProofs (disch := omega) [go_sem, -List.getD_eq_getElem?_getD, ite_yes, ht0, ht1]
      refine ACall.of (eqNmS_nil _ _ _) ?_
      simp -dsimp -implicitDefEqProofs (disch := omega) [go_sem, -List.getD_eq_getElem?_getD, ite_yes, ht0, ht1]
      refine ACall.of (markNmS_nil _ _) ?_
      simp -dsimp -implicitDefEqProofs (disch := omega) [go_sem, -List.getD_eq_getElem?_getD, ite_yes, ht0, ht1]
      refine ACall.of (heldNmS_nil _ _) ?_
      simp -dsimp -implicitDefEqProofs (disch := omega) [go_sem, -List.getD_eq_getElem?_getD, ite_yes, ht0, ht1]
      refine ACall.of (toNet_A n ps hlen0 c0 _ t0 hS0.app) ?_
      simp -dsimp -implicitDefEqProofs (disch := omega) [go_sem, -List.getD_eq_getElem?_getD, ite_yes, ht0, ht1]
      refine ACall.of (toVlS_A l hlen1 c1 _ t1 hS1.app) ?_
      simp -dsimp -implicitDefEqProofs (disch := omega) [go_sem, -List.getD_eq_getElem?_getD, ite_yes, ht0, ht1]
      refine ACall.of (iUseful_bad n ps hlen0 _ l hlen1 _ src hg _ _ _ (Sl.nth 9 rfl rfl) (Sl.nth 10 rfl rfl)) ?_
      simp -dsimp -implicitDefEqProofs (disch := omega) [go_sem, -List.getD_eq_getElem?_getD, ite_yes, ht0, ht1]
      refine ACall.of (eqNmS_nil _ _ _) ?_
      simp -dsimp -implicitDefEqProofs (disch := omega) [go_sem, -List.getD_eq_getElem?_getD, ite_yes, ht0, ht1]
      refine ACall.of (heldNmS_nil _ _) ?_
      simp -dsimp -implicitDefEqProofs (disch := omega) [go_sem, -List.getD_eq_getElem?_getD, ite_yes, ht0, ht1]
      exact fin_flat rfl rfl
    · simp -dsimp -implicitDefEqProofs (disch := omega) [go_sem, -List.getD_eq_getElem?_getD, ite_yes, ht0, ht1]
      first | refine AAt.of (by first | exact SubH.refl | exact SubH.app | exact SubH.both (by simp [subL])) ?_ | (refine ⟨?_, AAt.of (by first | exact SubH.refl | exact SubH.app | exact SubH.both (by simp [subL])) ?_⟩; · omega)
      refine AAny.two 3 0 2 (by kernel_rfl) (by kernel_rfl) (by kernel_rfl) ?_ ?_
      · simp -dsimp -implicitDefEqProofs (disch := omega) [go_sem, -List.getD_eq_getElem?_getD, ite_yes, ht0, ht1]
        first | refine AAt.of (by first | exact SubH.refl | exact SubH.app | exact SubH.both (by simp [subL])) ?_ | (refine ⟨?_, AAt.of (by first | exact SubH.refl | exact SubH.app | exact SubH.both (by simp [subL])) ?_⟩; · omega)
        refine AAny.one 2 2 (by kernel_rfl) (by kernel_rfl) (by kernel_rfl) ?_
        simp -dsimp -implicitDefEqProofs (disch := omega) [go_sem, -List.getD_eq_getElem?_getD, ite_yes, ht0, ht1]
        refine ACall.of (toNet_A n ps hlen0 c0 _ t0 hS0.app) ?_
        simp -dsimp -implicitDefEqProofs (disch := omega) [go_sem, -List.getD_eq_getElem?_getD, ite_yes, ht0, ht1]
        first | refine AAt.of (by first | exact SubH.refl | exact SubH.app | exact SubH.both (by simp [subL])) ?_ | (refine ⟨?_, AAt.of (by first | exact SubH.refl | exact SubH.app | exact SubH.both (by simp [subL])) ?_⟩; · omega)
        refine AAny.one 1 3 (by kernel_rfl) (by kernel_rfl) (by kernel_rfl) ?_
        simp -dsimp -implicitDefEqProofs (disch := omega) [go_sem, -List.getD_eq_getElem?_getD, ite_yes, ht0, ht1]
        refine ACall.of (eqNet_A n n ps ps hlen0 hlen0 _ _ _ _ _ (Sl.nth 4 rfl rfl) (Sl.nth 7 rfl rfl)) ?_
        simp -dsimp -implicitDefEqProofs (disch := omega) [go_sem, -List.getD_eq_getElem?_getD, ite_yes, ht0, ht1]
        first | refine AAt.of (by first | exact SubH.refl | exact SubH.app | exact SubH.both (by simp [subL])) ?_ | (refine ⟨?_, AAt.of (by first | exact SubH.refl | exact SubH.app | exact SubH.both (by simp [subL])) ?_⟩; · omega)
        refine AAny.takes (fuel := 0) (by kernel_rfl) (by kernel_rfl) [4] (by kernel_rfl) (by kernel_rfl) ?_
        simp -dsimp -implicitDefEqProofs (disch := omega) [go_sem, -List.getD_eq_getElem?_getD, ite_yes, ht0, ht1]
        refine AAny.done (by kernel_rfl) ?_
        simp -dsimp -implicitDefEqProofs (disch := omega) [go_sem, -List.getD_eq_getElem?_getD, ite_yes, ht0, ht1]
        refine ACall.of (toVlS_A l hlen1 c1 _ t1 hS1.app) ?_
        simp -dsimp -implicitDefEqProofs (disch := omega) [go_sem, -List.getD_eq_getElem?_getD, ite_yes, ht0, ht1]
        refine ACall.of (eqVlS_A l l hlen1 hlen1 _ _ _ _ _ (Sl.nth 6 rfl rfl) (Sl.nth 8 rfl rfl)) ?_
        simp -dsimp -implicitDefEqProofs (disch := omega) [go_sem, -List.getD_eq_getElem?_getD, ite_yes, ht0, ht1]
        refine ACall.of (markNet_A n ps hlen0 _ _ _ (by omega) (by omega) _ _ ((Heap.get_len_add _ _ 4).trans rfl)) ?_
        simp -dsimp -implicitDefEqProofs (disch := omega) [go_sem, -List.getD_eq_getElem?_getD, ite_yes, ht0, ht1]
        refine ACall.of (markVlS_A l hlen1 _ _ _ (by omega) (by omega) _ _ ((Heap.get_len_add _ _ 6).trans rfl)) ?_
        simp -dsimp -implicitDefEqProofs (disch := omega) [go_sem, -List.getD_eq_getElem?_getD, ite_yes, ht0, ht1]
        refine AIf.of (fun h => absurd (of_decide_eq_true h) (by omega)) (fun _ => ?_)
        simp -dsimp -implicitDefEqProofs (disch := omega) [go_sem, -List.getD_eq_getElem?_getD, ite_yes, ht0, ht1]
        refine ACall.of (eqNmS_nil _ _ _) ?_
        simp -dsimp -implicitDefEqProofs (disch := omega) [go_sem, -List.getD_eq_getElem?_getD, ite_yes, ht0, ht1]
        refine ACall.of (markNmS_nil _ _) ?_
        simp -dsimp -implicitDefEqProofs (disch := omega) [go_sem, -List.getD_eq_getElem?_getD, ite_yes, ht0, ht1]
        refine ACall.of (heldNmS_nil _ _) ?_
        simp -dsimp -implicitDefEqProofs (disch := omega) [go_sem, -List.getD_eq_getElem?_getD, ite_yes, ht0, ht1]
        refine ACall.of (toNet_A n ps hlen0 c0 _ t0 hS0.app) ?_
        simp -dsimp -implicitDefEqProofs (disch := omega) [go_sem, -List.getD_eq_getElem?_getD, ite_yes, ht0, ht1]
        refine ACall.of (toVlS_A l hlen1 c1 _ t1 hS1.app) ?_
        simp -dsimp -implicitDefEqProofs (disch := omega) [go_sem, -List.getD_eq_getElem?_getD, ite_yes, ht0, ht1]
        refine ACall.of (iUseful_bad n ps hlen0 _ l hlen1 _ src hg _ _ _ (Sl.nth 9 rfl rfl) (Sl.nth 10 rfl rfl)) ?_
        simp -dsimp -implicitDefEqProofs (disch := omega) [go_sem, -List.getD_eq_getElem?_getD, ite_yes, ht0, ht1]
        refine ACall.of (eqNmS_nil _ _ _) ?_
        simp -dsimp -implicitDefEqProofs (disch := omega) [go_sem, -List.getD_eq_getElem?_getD, ite_yes, ht0, ht1]
        refine ACall.of (heldNmS_nil _ _) ?_
        simp -dsimp -implicitDefEqProofs (disch := omega) [go_sem, -List.getD_eq_getElem?_getD, ite_yes, ht0, ht1]
        exact fin_flat rfl rfl
      · simp -dsimp -implicitDefEqProofs (disch := omega) [go_sem, -List.getD_eq_getElem?_getD, ite_yes, ht0, ht1]
        refine ACall.of (toNet_A n ps hlen0 c0 _ t0 hS0.app) ?_
        simp -dsimp -implicitDefEqProofs (disch := omega) [go_sem, -List.getD_eq_getElem?_getD, ite_yes, ht0, ht1]
        first | refine AAt.of (by first | exact SubH.refl | exact SubH.app | exact SubH.both (by simp [subL])) ?_ | (refine ⟨?_, AAt.of (by first | exact SubH.refl | exact SubH.app | exact SubH.both (by simp [subL])) ?_⟩; · omega)
        refine AAny.one 2 0 (by kernel_rfl) (by kernel_rfl) (by kernel_rfl) ?_
        simp -dsimp -implicitDefEqProofs (disch := omega) [go_sem, -List.getD_eq_getElem?_getD, ite_yes, ht0, ht1]
        first | refine AAt.of (by first | exact SubH.refl | exact SubH.app | exact SubH.both (by simp [subL])) ?_ | (refine ⟨?_, AAt.of (by first | exact SubH.refl | exact SubH.app | exact SubH.both (by simp [subL])) ?_⟩; · omega)
        refine AAny.one 1 3 (by kernel_rfl) (by kernel_rfl) (by kernel_rfl) ?_
        simp -dsimp -implicitDefEqProofs (disch := omega) [go_sem, -List.getD_eq_getElem?_getD, ite_yes, ht0, ht1]
        refine ACall.of (eqNet_A n n ps ps hlen0 hlen0 _ _ _ _ _ (Sl.nth 4 rfl rfl) (Sl.nth 7 rfl rfl)) ?_
        simp -dsimp -implicitDefEqProofs (disch := omega) [go_sem, -List.getD_eq_getElem?_getD, ite_yes, ht0, ht1]
        first | refine AAt.of (by first | exact SubH.refl | exact SubH.app | exact SubH.both (by simp [subL])) ?_ | (refine ⟨?_, AAt.of (by first | exact SubH.refl | exact SubH.app | exact SubH.both (by simp [subL])) ?_⟩; · omega)
        refine AAny.takes (fuel := 0) (by kernel_rfl) (by kernel_rfl) [4] (by kernel_rfl) (by kernel_rfl) ?_
        simp -dsimp -implicitDefEqProofs (disch := omega) [go_sem, -List.getD_eq_getElem?_getD, ite_yes, ht0, ht1]
        refine AAny.done (by kernel_rfl) ?_
        simp -dsimp -implicitDefEqProofs (disch := omega) [go_sem, -List.getD_eq_getElem?_getD, ite_yes, ht0, ht1]
        refine ACall.of (toVlS_A l hlen1 c1 _ t1 hS1.app) ?_
        simp -dsimp -implicitDefEqProofs (disch := omega) [go_sem, -List.getD_eq_getElem?_getD, ite_yes, ht0, ht1]
        refine ACall.of (eqVlS_A l l hlen1 hlen1 _ _ _ _ _ (Sl.nth 6 rfl rfl) (Sl.nth 8 rfl rfl)) ?_
        simp -dsimp -implicitDefEqProofs (disch := omega) [go_sem, -List.getD_eq_getElem?_getD, ite_yes, ht0, ht1]
        refine ACall.of (markNet_A n ps hlen0 _ _ _ (by omega) (by omega) _ _ ((Heap.get_len_add _ _ 4).trans rfl)) ?_
        simp -dsimp -implicitDefEqProofs (disch := omega) [go_sem, -List.getD_eq_getElem?_getD, ite_yes, ht0, ht1]
        refine ACall.of (markVlS_A l hlen1 _ _ _ (by omega) (by omega) _ _ ((Heap.get_len_add _ _ 6).trans rfl)) ?_
        simp -dsimp -implicitDefEqProofs (disch := omega) [go_sem, -List.getD_eq_getElem?_getD, ite_yes, ht0, ht1]
        refine AIf.of (fun h => absurd (of_decide_eq_true h) (by omega)) (fun _ => ?_)
        simp -dsimp -implicitDefEqProofs (disch := omega) [go_sem, -List.getD_eq_getElem?_getD, ite_yes, ht0, ht1]
        refine ACall.of (eqNmS_nil _ _ _) ?_
        simp -dsimp -implicitDefEqProofs (disch := omega) [go_sem, -List.getD_eq_getElem?_getD, ite_yes, ht0, ht1]
        refine ACall.of (markNmS_nil _ _) ?_
        simp -dsimp -implicitDefEqProofs (disch := omega) [go_sem, -List.getD_eq_getElem?_getD, ite_yes, ht0, ht1]
        refine ACall.of (heldNmS_nil _ _) ?_
        simp -dsimp -implicitDefEqProofs (disch := omega) [go_sem, -List.getD_eq_getElem?_getD, ite_yes, ht0, ht1]
        refine ACall.of (toNet_A n ps hlen0 c0 _ t0 hS0.app) ?_
        simp -dsimp -implicitDefEqProofs (disch := omega) [go_sem, -List.getD_eq_getElem?_getD, ite_yes, ht0, ht1]
        refine ACall.of (toVlS_A l hlen1 c1 _ t1 hS1.app) ?_
        simp -dsimp -implicitDefEqProofs (disch := omega) [go_sem, -List.getD_eq_getElem?_getD, ite_yes, ht0, ht1]
        refine ACall.of (iUseful_bad n ps hlen0 _ l hlen1 _ src hg _ _ _ (Sl.nth 9 rfl rfl) (Sl.nth 10 rfl rfl)) ?_
        simp -dsimp -implicitDefEqProofs (disch := omega) [go_sem, -List.getD_eq_getElem?_getD, ite_yes, ht0, ht1]
        refine ACall.of (eqNmS_nil _ _ _) ?_
        simp -dsimp -implicitDefEqProofs (disch := omega) [go_sem, -List.getD_eq_getElem?_getD, ite_yes, ht0, ht1]
        refine ACall.of (heldNmS_nil _ _) ?_
        simp -dsimp -implicitDefEqProofs (disch := omega) [go_sem, -List.getD_eq_getElem?_getD, ite_yes, ht0, ht1]
        exact fin_flat rfl rfl
end Go.Proofs.Ytaehphcaiabdmaa
