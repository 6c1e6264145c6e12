/- What is reached in a network: the walk through the reference's spreading. -/
import Derived.Test.YtamkdgjagjpmlaaSpreadS
namespace Go.Proofs.Ytamkdgjagjpmlaa
open Go.Am
set_option linter.unusedVariables false
set_option linter.unusedSimpArgs false
set_option maxRecDepth 100000
set_option maxHeartbeats 4000000

theorem wm_net {n : Int} {t len c h : Nat} (ht : t < h) (σ : Sig) (m : Nat) (hs : ∀ t, t < h → σ t = some t) (hm : h ≤ m) : L2 (WM σ m) [.int .i64 n, .slice (some ⟨t, 0, none⟩) len c] [.int .i64 n, .slice (some ⟨t, 0, none⟩) len c] :=
  have h1 : t < m := by omega
  ⟨rfl, ⟨h1, .inl ⟨t, c, hs t ht, rfl⟩⟩, trivial⟩
/-- the state of the spreading -/
structure KI (b0 tp len cp : Nat) (H : Heap) (i : Ix) : Prop where
  kx : KExt b0 H i.K
  klt : H.length < i.K.length
  net : aCells i.K ⟨H.length, 1, none⟩ 1 = some [.slice (some ⟨tp, 0, none⟩) len cp]
  sp : SpL i.W i.N i.P i.tn i.tm i.K
theorem KI.app {b0 tp len cp : Nat} {H : Heap} {i : Ix} {b : Blk} (h : KI b0 tp len cp H i) (hb : b.xs.all flat = true) : KI b0 tp len cp H { i with K := i.K ++ [some b] } :=
  ⟨h.kx.snoc fun _ _ _ _ => wm_flat hb, by have := h.klt; simp; omega, by rw [aCells_old h.klt]; exact h.net, h.sp.app⟩
/-- a pipe in its block -/
structure PipAt (p1 a b : Int) (tq : Nat) (K : Heap) : Prop where
  lt : tq < K.length
  c0 : aCells K ⟨tq, 0, none⟩ 1 = some [.int .i64 p1]
  c1 : aCells K ⟨tq, 1, none⟩ 1 = some [.int .i64 a]
  c2 : aCells K ⟨tq, 2, none⟩ 1 = some [.int .i64 b]
theorem PipAt.app {p1 a b : Int} {tq : Nat} {K L : Heap} (h : PipAt p1 a b tq K) : PipAt p1 a b tq (K ++ L) :=
  ⟨by have := h.lt; simp; omega, by rw [aCells_old h.lt]; exact h.c0, by rw [aCells_old h.lt]; exact h.c1, by rw [aCells_old h.lt]; exact h.c2⟩
theorem PipAt.new (p1 a b p4 : Int) (K : Heap) : PipAt p1 a b K.length (K ++ [some ⟨[.int .i64 p1, .int .i64 a, .int .i64 b, .int .i64 p4], true, 68, 1⟩]) :=
  ⟨by simp, by simp [aCells_at0, Heap.get_cons, aC1], by simp [aCells_at0, Heap.get_cons, aC1], by simp [aCells_at0, Heap.get_cons, aC1]⟩
theorem stepAt_no {o : Bool} {s : St} {a b : Nat} (h : o = false ∨ s.1.getD a false = s.1.getD b false) : stepAt o s a b = s := by
  unfold stepAt
  rcases h with h | h
  · rw [h, Bool.and_false]; rfl
  · rw [h]; simp
theorem stepAt_yes {o : Bool} {s : St} {a b : Nat} (h : o = true) (h2 : s.1.getD a false ≠ s.1.getD b false) : stepAt o s a b = ((s.1.set a true).set b true, true) := by
  unfold stepAt
  rw [h, Bool.and_true, if_pos (by simpa using h2)]
theorem l4Spread_R (n : Int) (ps : List Pp) (hN : NetAt n ps) (cp : Nat) (l : List Vl) (hl : l.length ≤ 1048577) (c : Nat) (N0 P0 : List Int) (tn cn tm cm : Nat) (W0 : List Bool) (H : Heap) (tp tv : Nat) (hP : Sl ppE H tp ps) (hV : Sl vlE H tv l) (h0 : SpL W0 N0 P0 tn tm H) (b0 : Nat) (hb1 : tp < b0) (hb2 : b0 ≤ H.length) (R : List Bool) (hR : Spr (openB l) ps W0 R) :
    AFunR Try.prog 50 [netV n tp ps.length cp, .slice (some ⟨tv, 0, none⟩) l.length c, .bool true, .slice (some ⟨tn, 0, none⟩) N0.length cn, .slice (some ⟨tm, 0, none⟩) P0.length cm] H (SprOut b0 H R) := by
  refine AFunR.of_body Try.func50 (by kernel_rfl) rfl (by kernel_rfl) (by simp [Try.ntmps50]) ?_
  have htp := hP.lt
  have htv := hV.lt
  have htn0 := h0.sN.lt
  have htm0 := h0.sP.lt
  have hn := hN.f_n
  have hpl := hN.f_len
  simp -dsimp -implicitDefEqProofs (disch := omega) [go_sem, -List.getD_eq_getElem?_getD, ite_yes, htp, htv]
  have kx0 : KExt b0 H (H ++ [some ⟨[.int .i64 n, .slice (some ⟨tp, 0, none⟩) ps.length cp], true, 34, 1⟩]) := (KExt.refl hb2).snoc fun σ m hs hm => wm_net hb1 σ m hs hm
  have ki0 : KI b0 tp ps.length cp H ⟨W0, true, N0, P0, tn, cn, tm, cm, H ++ [some ⟨[.int .i64 n, .slice (some ⟨tp, 0, none⟩) ps.length cp], true, 34, 1⟩]⟩ :=
    ⟨kx0, by simp, by simp [aCells_at0, Heap.get_cons, aC1], h0.app⟩
  refine ALoop.intro (ι := Ix) (fun i => KI b0 tp ps.length cp H i ∧ (i.ag = true → Spr (openB l) ps i.W R) ∧ (i.ag = false → R = i.W)) (fun i => [(1, .slice (some ⟨tv, 0, none⟩) l.length c), (2, .bool true), (3, .slice (some ⟨i.tn, 0, none⟩) i.N.length i.cn), (4, .slice (some ⟨i.tm, 0, none⟩) i.P.length i.cm), (5, .pointer (some ⟨H.length, 0, none⟩)), (12, .bool i.ag)])
    (fun i => i.K) (fun i => 2 * (19 - cnt i.W) + (if i.ag then 1 else 0)) ⟨W0, true, N0, P0, tn, cn, tm, cm, H ++ [some ⟨[.int .i64 n, .slice (some ⟨tp, 0, none⟩) ps.length cp], true, 34, 1⟩]⟩ ⟨ki0, fun _ => hR, fun h => by cases h⟩ ?_ ?_
  · exact weakS_keep kx0 (by simp -dsimp -implicitDefEqProofs (disch := omega) [go_sem, -List.getD_eq_getElem?_getD, ite_yes, htp, htv])
  rintro ⟨W, ag, N, P, un, dn, um, dm, K⟩ ⟨hK, hI1, hI2⟩
  simp only at hK hI1 hI2 ⊢
  have klt : H.length < K.length := hK.klt
  have kn : un < K.length := hK.sp.sN.lt
  have km : um < K.length := hK.sp.sP.lt
  have ktp : tp < K.length := by omega
  have ktv : tv < K.length := by omega
  cases ag with
  | false =>
    simp -dsimp -implicitDefEqProofs (disch := omega) [go_sem, -List.getD_eq_getElem?_getD, ite_yes]
    refine EndR.of _ _ ⟨N, P, un, dn, um, dm, rfl, hK.kx, (hI2 rfl) ▸ hK.sp⟩ (fin_keep hK.kx (by simp -dsimp -implicitDefEqProofs (disch := omega) [go_sem, -List.getD_eq_getElem?_getD, ite_yes, kn, km]))
  | true =>
  have hW19 := hK.sp.w19
  simp only at hW19
  simp -dsimp -implicitDefEqProofs (disch := omega) [go_sem, -List.getD_eq_getElem?_getD, ite_yes, ktp, ktv]
  refine ALoop.intro (ι := Ix × Nat) (fun q => q.2 ≤ ps.length ∧ KI b0 tp ps.length cp H q.1 ∧ q.1.st = psTo (openB l) ps W q.2) (fun q => let i := q.1; [(1, .slice (some ⟨tv, 0, none⟩) l.length c), (2, .bool true), (3, .slice (some ⟨i.tn, 0, none⟩) i.N.length i.cn), (4, .slice (some ⟨i.tm, 0, none⟩) i.P.length i.cm), (5, .pointer (some ⟨H.length, 0, none⟩)), (12, .bool i.ag), (13, .int .i64 q.2)])
    (fun q => q.1.K) (fun q => ps.length - q.2) (⟨W, false, N, P, un, dn, um, dm, K⟩, 0) ⟨by omega, ⟨hK.kx, hK.klt, hK.net, hK.sp⟩, rfl⟩ ?_ ?_
  · exact weakS_keep hK.kx (by simp -dsimp -implicitDefEqProofs (disch := omega) [go_sem, -List.getD_eq_getElem?_getD, ite_yes, klt, kn, km, ktp, ktv])
  clear hK klt kn km ktp ktv
  rintro ⟨⟨V, ag, N, P, un, dn, um, dm, K⟩, k⟩ ⟨hk, hK, hst⟩
  simp only [Ix.st] at hk hK hst ⊢
  have klt : H.length < K.length := hK.klt
  have kn : un < K.length := hK.sp.sN.lt
  have km : um < K.length := hK.sp.sP.lt
  have knet : aCells K ⟨H.length, 1, none⟩ 1 = some [.slice (some ⟨tp, 0, none⟩) ps.length cp] := hK.net
  have ktp : tp < K.length := by omega
  have ktv : tv < K.length := by omega
  by_cases hlt : k < ps.length
  rotate_left
  · obtain rfl : k = ps.length := by omega
    have hinv := psTo_inv hN (openB l) hW19 ps.length (Nat.le_refl _)
    simp -dsimp -implicitDefEqProofs (disch := omega) [go_sem, -List.getD_eq_getElem?_getD, ite_yes, hlt, knet, klt]
    rw [← hst] at hinv
    have e : pass (openB l) ps W = (V, ag) := hst.symm
    refine LoopEnd.of ⟨V, ag, N, P, un, dn, um, dm, K⟩ ⟨hK, fun h => ?_, fun h => ?_⟩ ?_ (weakS_keep hK.kx (by simp -dsimp -implicitDefEqProofs (disch := omega) [go_sem, -List.getD_eq_getElem?_getD, ite_yes, klt, kn, km, ktp, ktv]))
    · have := (hI1 rfl).get_more (by rw [e]; exact h)
      rwa [e] at this
    · have := (hI1 rfl).get_done (by rw [e]; exact h)
      rwa [e] at this
    · have c1 := cnt_le V
      have c2 := hK.sp.w19
      simp only at c2 ⊢
      rcases hinv.2 with h | ⟨h, h'⟩
      · cases h; simp
      · simp only at h h'; subst h; simp only [if_true]; omega
  have hin : psTo (openB l) ps W (k + 1) = inP (openB l) (psTo (openB l) ps W k) k (ps.getD k pp0) 2 := rfl
  have cs := (hK.kx.sl hP).cells (s := 4) (fun _ => rfl) pp0 k hlt
  simp only [ppE] at cs
  have hend := hN.f_end k hlt
  obtain ⟨⟨p1, p2, p3, p4⟩, hpk⟩ : ∃ p, ps.getD k pp0 = p := ⟨_, rfl⟩
  rw [← hst] at hin
  simp only [hpk] at hin hend cs
  obtain ⟨a, rfl⟩ : ∃ a : Nat, p2 = (a : Int) := ⟨p2.toNat, by omega⟩
  obtain ⟨b, rfl⟩ : ∃ b : Nat, p3 = (b : Int) := ⟨p3.toNat, by omega⟩
  have i1 : ∀ s0 : St, inP (openB l) s0 k (p1, (a : Int), (b : Int), p4) 1 = stepAt (openB l (p1, (a : Int), (b : Int), p4) (a : Int)) (inP (openB l) s0 k (p1, (a : Int), (b : Int), p4) 0) a (9 + k) := fun s0 => rfl
  have i2 : ∀ s0 : St, inP (openB l) s0 k (p1, (a : Int), (b : Int), p4) 2 = stepAt (openB l (p1, (a : Int), (b : Int), p4) (b : Int)) (inP (openB l) s0 k (p1, (a : Int), (b : Int), p4) 1) b (9 + k) := fun s0 => rfl
  generalize hs0 : (V, ag) = s0 at hin
  simp -dsimp -implicitDefEqProofs (disch := omega) [go_sem, -List.getD_eq_getElem?_getD, ite_yes, hlt, cs, knet, klt, ktp]
  have hK3 : KI b0 tp ps.length cp H ⟨V, ag, N, P, un, dn, um, dm, K ++ [some ⟨[.int .i64 p1, .int .i64 a, .int .i64 b, .int .i64 p4], true, 68, 1⟩]⟩ := hK.app (b := ⟨[.int .i64 p1, .int .i64 a, .int .i64 b, .int .i64 p4], true, 68, 1⟩) rfl
  refine ALoop.intro (ι := Ix × Nat) (fun q => q.2 ≤ 2 ∧ KI b0 tp ps.length cp H q.1 ∧ PipAt p1 a b K.length q.1.K ∧ q.1.st = inP (openB l) s0 k (p1, (a : Int), (b : Int), p4) q.2) (fun q => let i := q.1; [(1, .slice (some ⟨tv, 0, none⟩) l.length c), (2, .bool true), (3, .slice (some ⟨i.tn, 0, none⟩) i.N.length i.cn), (4, .slice (some ⟨i.tm, 0, none⟩) i.P.length i.cm), (5, .pointer (some ⟨H.length, 0, none⟩)), (12, .bool i.ag), (13, .int .i64 k), (14, .pointer (some ⟨K.length, 0, none⟩)), (15, .int .i64 q.2)])
    (fun q => q.1.K) (fun q => 2 - q.2) (⟨V, ag, N, P, un, dn, um, dm, K ++ [some ⟨[.int .i64 p1, .int .i64 a, .int .i64 b, .int .i64 p4], true, 68, 1⟩]⟩, 0) ⟨by omega, hK3, PipAt.new _ _ _ _ _, hs0⟩ ?_ ?_
  · exact weakS_keep hK3.kx (by simp -dsimp -implicitDefEqProofs (disch := omega) [go_sem, -List.getD_eq_getElem?_getD, ite_yes, klt, kn, km, ktp, ktv])
  generalize hq : K.length = tq
  clear hK3 hK klt kn km ktp ktv knet cs hst hs0
  rintro ⟨⟨V, ag, N, P, un, dn, um, dm, K⟩, m⟩ ⟨hm, hK, hPip, hst⟩
  simp only [Ix.st] at hm hK hPip hst ⊢
  have klt : H.length < K.length := hK.klt
  have kn : un < K.length := hK.sp.sN.lt
  have km : um < K.length := hK.sp.sP.lt
  have knet : aCells K ⟨H.length, 1, none⟩ 1 = some [.slice (some ⟨tp, 0, none⟩) ps.length cp] := hK.net
  have ktp : tp < K.length := by omega
  have ktv : tv < K.length := by omega
  have ktq : tq < K.length := hPip.lt
  have q0 := hPip.c0
  have q1 := hPip.c1
  have q2 := hPip.c2
  have hbd : N.length + P.length ≤ 19 := hK.sp.bound
  by_cases hm2 : m < 2
  rotate_left
  · obtain rfl : m = 2 := by omega
    simp -dsimp -implicitDefEqProofs (disch := omega) [go_sem, -List.getD_eq_getElem?_getD, ite_yes]
    exact LoopEnd.of (⟨V, ag, N, P, un, dn, um, dm, K⟩, k + 1) ⟨by omega, hK, by rw [hin]; exact hst⟩ (by omega) (weakS_keep hK.kx (by simp -dsimp -implicitDefEqProofs (disch := omega) [go_sem, -List.getD_eq_getElem?_getD, ite_yes, klt, kn, km, ktp, ktv]))
  have hm01 : m = 0 ∨ m = 1 := by omega
  rcases hm01 with rfl | rfl
  · have ii := i1 s0
    rw [← hst] at ii
    have hx : a < 9 := by omega
    have hk10 : k < 10 := by omega
    have mN := hK.sp.memN a hx
    have mP := hK.sp.memP k hk10
    simp only at mN mP
    have hKe : KI b0 tp ps.length cp H ⟨V, ag, N, P, un, dn, um, dm, K ++ [some ⟨[.int .i64 a, .int .i64 b], true, 3, 1⟩]⟩ := hK.app (b := ⟨[.int .i64 a, .int .i64 b], true, 3, 1⟩) rfl
    have eo : openB l (p1, (a : Int), (b : Int), p4) (a : Int) = !decide (0 ≤ ixOf (shutAt p1 (a : Int)) l) := rfl
    simp -dsimp -implicitDefEqProofs (disch := omega) [go_sem, -List.getD_eq_getElem?_getD, ite_yes, klt, knet, ktq, q0, q1, q2]
    refine ACall.of (l4Blocked_A l hl c p1 (a : Int) _ tv (hKe.kx.sl hV)) ?_
    cases hb : decide (0 ≤ ixOf (shutAt p1 (a : Int)) l)
    rotate_left
    · rw [hb] at eo
      simp -dsimp -implicitDefEqProofs (disch := omega) [go_sem, -List.getD_eq_getElem?_getD, ite_yes]
      exact LoopEnd.of (⟨V, ag, N, P, un, dn, um, dm, K ++ [some ⟨[.int .i64 a, .int .i64 b], true, 3, 1⟩]⟩, 1) ⟨by omega, hKe, hPip.app, by rw [ii, stepAt_no (.inl eo)]⟩ (by omega) (weakS_keep hKe.kx (by simp -dsimp -implicitDefEqProofs (disch := omega) [go_sem, -List.getD_eq_getElem?_getD, ite_yes, klt, kn, km, ktp, ktv, ktq]))
    rw [hb] at eo
    simp -dsimp -implicitDefEqProofs (disch := omega) [go_sem, -List.getD_eq_getElem?_getD, ite_yes, klt, kn, km]
    refine ACall.of (l1Has_A N (a : Int) (by omega) dn _ un hKe.sp.sN) ?_
    simp -dsimp -implicitDefEqProofs (disch := omega) [go_sem, -List.getD_eq_getElem?_getD, ite_yes, klt, kn, km]
    refine ACall.of (l1Has_A P (k : Int) (by omega) dm _ um hKe.sp.sP) ?_
    cases h1 : hasI N (a : Int) <;> cases h2 : hasI P (k : Int)
    · simp -dsimp -implicitDefEqProofs (disch := omega) [go_sem, -List.getD_eq_getElem?_getD, ite_yes]
      exact LoopEnd.of (⟨V, ag, N, P, un, dn, um, dm, K ++ [some ⟨[.int .i64 a, .int .i64 b], true, 3, 1⟩]⟩, 1) ⟨by omega, hKe, hPip.app, by rw [ii, stepAt_no (.inr (by show V.getD _ _ = V.getD _ _; rw [← mN, ← mP, h1, h2]))]⟩ (by omega) (weakS_keep hKe.kx (by simp -dsimp -implicitDefEqProofs (disch := omega) [go_sem, -List.getD_eq_getElem?_getD, ite_yes, klt, kn, km, ktp, ktv, ktq]))
    · simp -dsimp -implicitDefEqProofs (disch := omega) [go_sem, -List.getD_eq_getElem?_getD, ite_yes]
      refine ACall.of (l1Put_new N (a : Int) (by omega) hK.sp.upN h1 dn _ un hKe.sp.sN hKe.sp.zN) ?_
      simp -dsimp -implicitDefEqProofs (disch := omega) [go_sem, -List.getD_eq_getElem?_getD, ite_yes]
      refine ACall.of (l1Put_in P (k : Int) (by omega) hK.sp.upP h2 dm _ um hK.sp.sP.app) ?_
      simp -dsimp -implicitDefEqProofs (disch := omega) [go_sem, -List.getD_eq_getElem?_getD, ite_yes]
      have hsp := hKe.sp.putN hx hk10 h1 h2
      have hKf : KI b0 tp ps.length cp H ⟨(V.set a true).set (9 + k) true, true, putL N a, P, K.length + 1, N.length + 1, um, dm, K ++ [some ⟨[.int .i64 a, .int .i64 b], true, 3, 1⟩, some ⟨(putL N (a : Int)).flatMap nmE, true, 3, 1⟩]⟩ := by
        have h9 := hKe.app (b := ⟨(putL N (a : Int)).flatMap nmE, true, 3, 1⟩) (nmE_flat _)
        refine ⟨?_, ?_, ?_, ?_⟩
        · simpa using h9.kx
        · simpa using h9.klt
        · simpa using h9.net
        · simpa using hsp
      exact LoopEnd.of (⟨(V.set a true).set (9 + k) true, true, putL N a, P, K.length + 1, N.length + 1, um, dm, K ++ [some ⟨[.int .i64 a, .int .i64 b], true, 3, 1⟩, some ⟨(putL N (a : Int)).flatMap nmE, true, 3, 1⟩]⟩, 1) ⟨by omega, hKf, hPip.app, by rw [ii, stepAt_yes eo (by show V.getD _ _ ≠ V.getD _ _; rw [← mN, ← mP, h1, h2]; simp)]⟩ (by omega) (weakS_keep hKf.kx (by simp -dsimp -implicitDefEqProofs (disch := omega) [go_sem, -List.getD_eq_getElem?_getD, ite_yes, klt, kn, km, ktp, ktv, ktq, putL_length]))
    · simp -dsimp -implicitDefEqProofs (disch := omega) [go_sem, -List.getD_eq_getElem?_getD, ite_yes]
      refine ACall.of (l1Put_in N (a : Int) (by omega) hK.sp.upN h1 dn _ un hKe.sp.sN) ?_
      simp -dsimp -implicitDefEqProofs (disch := omega) [go_sem, -List.getD_eq_getElem?_getD, ite_yes]
      refine ACall.of (l1Put_new P (k : Int) (by omega) hK.sp.upP h2 dm _ um hKe.sp.sP hKe.sp.zP) ?_
      simp -dsimp -implicitDefEqProofs (disch := omega) [go_sem, -List.getD_eq_getElem?_getD, ite_yes]
      have hsp := hKe.sp.putP hx hk10 h1 h2
      have hKf : KI b0 tp ps.length cp H ⟨(V.set a true).set (9 + k) true, true, N, putL P k, un, dn, K.length + 1, P.length + 1, K ++ [some ⟨[.int .i64 a, .int .i64 b], true, 3, 1⟩, some ⟨(putL P (k : Int)).flatMap nmE, true, 3, 1⟩]⟩ := by
        have h9 := hKe.app (b := ⟨(putL P (k : Int)).flatMap nmE, true, 3, 1⟩) (nmE_flat _)
        refine ⟨?_, ?_, ?_, ?_⟩
        · simpa using h9.kx
        · simpa using h9.klt
        · simpa using h9.net
        · simpa using hsp
      exact LoopEnd.of (⟨(V.set a true).set (9 + k) true, true, N, putL P k, un, dn, K.length + 1, P.length + 1, K ++ [some ⟨[.int .i64 a, .int .i64 b], true, 3, 1⟩, some ⟨(putL P (k : Int)).flatMap nmE, true, 3, 1⟩]⟩, 1) ⟨by omega, hKf, hPip.app, by rw [ii, stepAt_yes eo (by show V.getD _ _ ≠ V.getD _ _; rw [← mN, ← mP, h1, h2]; simp)]⟩ (by omega) (weakS_keep hKf.kx (by simp -dsimp -implicitDefEqProofs (disch := omega) [go_sem, -List.getD_eq_getElem?_getD, ite_yes, klt, kn, km, ktp, ktv, ktq, putL_length]))
    · simp -dsimp -implicitDefEqProofs (disch := omega) [go_sem, -List.getD_eq_getElem?_getD, ite_yes]
      exact LoopEnd.of (⟨V, ag, N, P, un, dn, um, dm, K ++ [some ⟨[.int .i64 a, .int .i64 b], true, 3, 1⟩]⟩, 1) ⟨by omega, hKe, hPip.app, by rw [ii, stepAt_no (.inr (by show V.getD _ _ = V.getD _ _; rw [← mN, ← mP, h1, h2]))]⟩ (by omega) (weakS_keep hKe.kx (by simp -dsimp -implicitDefEqProofs (disch := omega) [go_sem, -List.getD_eq_getElem?_getD, ite_yes, klt, kn, km, ktp, ktv, ktq]))
  · have ii := i2 s0
    rw [← hst] at ii
    have hx : b < 9 := by omega
    have hk10 : k < 10 := by omega
    have mN := hK.sp.memN b hx
    have mP := hK.sp.memP k hk10
    simp only at mN mP
    have hKe : KI b0 tp ps.length cp H ⟨V, ag, N, P, un, dn, um, dm, K ++ [some ⟨[.int .i64 a, .int .i64 b], true, 3, 1⟩]⟩ := hK.app (b := ⟨[.int .i64 a, .int .i64 b], true, 3, 1⟩) rfl
    have eo : openB l (p1, (a : Int), (b : Int), p4) (b : Int) = !decide (0 ≤ ixOf (shutAt p1 (b : Int)) l) := rfl
    simp -dsimp -implicitDefEqProofs (disch := omega) [go_sem, -List.getD_eq_getElem?_getD, ite_yes, klt, knet, ktq, q0, q1, q2]
    refine ACall.of (l4Blocked_A l hl c p1 (b : Int) _ tv (hKe.kx.sl hV)) ?_
    cases hb : decide (0 ≤ ixOf (shutAt p1 (b : Int)) l)
    rotate_left
    · rw [hb] at eo
      simp -dsimp -implicitDefEqProofs (disch := omega) [go_sem, -List.getD_eq_getElem?_getD, ite_yes]
      exact LoopEnd.of (⟨V, ag, N, P, un, dn, um, dm, K ++ [some ⟨[.int .i64 a, .int .i64 b], true, 3, 1⟩]⟩, 2) ⟨by omega, hKe, hPip.app, by rw [ii, stepAt_no (.inl eo)]⟩ (by omega) (weakS_keep hKe.kx (by simp -dsimp -implicitDefEqProofs (disch := omega) [go_sem, -List.getD_eq_getElem?_getD, ite_yes, klt, kn, km, ktp, ktv, ktq]))
    rw [hb] at eo
    simp -dsimp -implicitDefEqProofs (disch := omega) [go_sem, -List.getD_eq_getElem?_getD, ite_yes, klt, kn, km]
    refine ACall.of (l1Has_A N (b : Int) (by omega) dn _ un hKe.sp.sN) ?_
    simp -dsimp -implicitDefEqProofs (disch := omega) [go_sem, -List.getD_eq_getElem?_getD, ite_yes, klt, kn, km]
    refine ACall.of (l1Has_A P (k : Int) (by omega) dm _ um hKe.sp.sP) ?_
    cases h1 : hasI N (b : Int) <;> cases h2 : hasI P (k : Int)
    · simp -dsimp -implicitDefEqProofs (disch := omega) [go_sem, -List.getD_eq_getElem?_getD, ite_yes]
      exact LoopEnd.of (⟨V, ag, N, P, un, dn, um, dm, K ++ [some ⟨[.int .i64 a, .int .i64 b], true, 3, 1⟩]⟩, 2) ⟨by omega, hKe, hPip.app, by rw [ii, stepAt_no (.inr (by show V.getD _ _ = V.getD _ _; rw [← mN, ← mP, h1, h2]))]⟩ (by omega) (weakS_keep hKe.kx (by simp -dsimp -implicitDefEqProofs (disch := omega) [go_sem, -List.getD_eq_getElem?_getD, ite_yes, klt, kn, km, ktp, ktv, ktq]))
    · simp -dsimp -implicitDefEqProofs (disch := omega) [go_sem, -List.getD_eq_getElem?_getD, ite_yes]
      refine ACall.of (l1Put_new N (b : Int) (by omega) hK.sp.upN h1 dn _ un hKe.sp.sN hKe.sp.zN) ?_
      simp -dsimp -implicitDefEqProofs (disch := omega) [go_sem, -List.getD_eq_getElem?_getD, ite_yes]
      refine ACall.of (l1Put_in P (k : Int) (by omega) hK.sp.upP h2 dm _ um hK.sp.sP.app) ?_
      simp -dsimp -implicitDefEqProofs (disch := omega) [go_sem, -List.getD_eq_getElem?_getD, ite_yes]
      have hsp := hKe.sp.putN hx hk10 h1 h2
      have hKf : KI b0 tp ps.length cp H ⟨(V.set b true).set (9 + k) true, true, putL N b, P, K.length + 1, N.length + 1, um, dm, K ++ [some ⟨[.int .i64 a, .int .i64 b], true, 3, 1⟩, some ⟨(putL N (b : Int)).flatMap nmE, true, 3, 1⟩]⟩ := by
        have h9 := hKe.app (b := ⟨(putL N (b : Int)).flatMap nmE, true, 3, 1⟩) (nmE_flat _)
        refine ⟨?_, ?_, ?_, ?_⟩
        · simpa using h9.kx
        · simpa using h9.klt
        · simpa using h9.net
        · simpa using hsp
      exact LoopEnd.of (⟨(V.set b true).set (9 + k) true, true, putL N b, P, K.length + 1, N.length + 1, um, dm, K ++ [some ⟨[.int .i64 a, .int .i64 b], true, 3, 1⟩, some ⟨(putL N (b : Int)).flatMap nmE, true, 3, 1⟩]⟩, 2) ⟨by omega, hKf, hPip.app, by rw [ii, stepAt_yes eo (by show V.getD _ _ ≠ V.getD _ _; rw [← mN, ← mP, h1, h2]; simp)]⟩ (by omega) (weakS_keep hKf.kx (by simp -dsimp -implicitDefEqProofs (disch := omega) [go_sem, -List.getD_eq_getElem?_getD, ite_yes, klt, kn, km, ktp, ktv, ktq, putL_length]))
    · simp -dsimp -implicitDefEqProofs (disch := omega) [go_sem, -List.getD_eq_getElem?_getD, ite_yes]
      refine ACall.of (l1Put_in N (b : Int) (by omega) hK.sp.upN h1 dn _ un hKe.sp.sN) ?_
      simp -dsimp -implicitDefEqProofs (disch := omega) [go_sem, -List.getD_eq_getElem?_getD, ite_yes]
      refine ACall.of (l1Put_new P (k : Int) (by omega) hK.sp.upP h2 dm _ um hKe.sp.sP hKe.sp.zP) ?_
      simp -dsimp -implicitDefEqProofs (disch := omega) [go_sem, -List.getD_eq_getElem?_getD, ite_yes]
      have hsp := hKe.sp.putP hx hk10 h1 h2
      have hKf : KI b0 tp ps.length cp H ⟨(V.set b true).set (9 + k) true, true, N, putL P k, un, dn, K.length + 1, P.length + 1, K ++ [some ⟨[.int .i64 a, .int .i64 b], true, 3, 1⟩, some ⟨(putL P (k : Int)).flatMap nmE, true, 3, 1⟩]⟩ := by
        have h9 := hKe.app (b := ⟨(putL P (k : Int)).flatMap nmE, true, 3, 1⟩) (nmE_flat _)
        refine ⟨?_, ?_, ?_, ?_⟩
        · simpa using h9.kx
        · simpa using h9.klt
        · simpa using h9.net
        · simpa using hsp
      exact LoopEnd.of (⟨(V.set b true).set (9 + k) true, true, N, putL P k, un, dn, K.length + 1, P.length + 1, K ++ [some ⟨[.int .i64 a, .int .i64 b], true, 3, 1⟩, some ⟨(putL P (k : Int)).flatMap nmE, true, 3, 1⟩]⟩, 2) ⟨by omega, hKf, hPip.app, by rw [ii, stepAt_yes eo (by show V.getD _ _ ≠ V.getD _ _; rw [← mN, ← mP, h1, h2]; simp)]⟩ (by omega) (weakS_keep hKf.kx (by simp -dsimp -implicitDefEqProofs (disch := omega) [go_sem, -List.getD_eq_getElem?_getD, ite_yes, klt, kn, km, ktp, ktv, ktq, putL_length]))
    · simp -dsimp -implicitDefEqProofs (disch := omega) [go_sem, -List.getD_eq_getElem?_getD, ite_yes]
      exact LoopEnd.of (⟨V, ag, N, P, un, dn, um, dm, K ++ [some ⟨[.int .i64 a, .int .i64 b], true, 3, 1⟩]⟩, 2) ⟨by omega, hKe, hPip.app, by rw [ii, stepAt_no (.inr (by show V.getD _ _ = V.getD _ _; rw [← mN, ← mP, h1, h2]))]⟩ (by omega) (weakS_keep hKe.kx (by simp -dsimp -implicitDefEqProofs (disch := omega) [go_sem, -List.getD_eq_getElem?_getD, ite_yes, klt, kn, km, ktp, ktv, ktq]))
end Go.Proofs.Ytamkdgjagjpmlaa
