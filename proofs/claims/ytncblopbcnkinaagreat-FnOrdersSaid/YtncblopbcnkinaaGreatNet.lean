/- Networks: what is valid, and where a pipe is. -/
import Derived.Test.YtncblopbcnkinaaGreatSpread
import Derived.Test.YtncblopbcnkinaaGreatDays
import Derived.Test.YtncblopbcnkinaaGreatAsc
import Derived.Test.YtncblopbcnkinaaGreatFind
import Derived.Test.YtncblopbcnkinaaGreatAm13
import Derived.Test.YtncblopbcnkinaaGreatAm16
namespace Go.Proofs.YtncblopbcnkinaaGreat
open Go.Am
set_option linter.unusedVariables false
set_option linter.unusedSimpArgs false
set_option maxRecDepth 100000
set_option maxHeartbeats 1000000

/-- a network's value -/
abbrev netV (n : Int) (tp len cp : Nat) : Value := .agg #[.int .i64 n, .slice (some ⟨tp, 0, none⟩) len cp]
theorem wl_net {n : Int} {t len c m j : Nat} {js : List (Option Nat)} (ht : t < m) : WL (sg m js) (m + j) [.int .i64 n, .slice (some ⟨t, 0, none⟩) len c] [.int .i64 n, .slice (some ⟨t, 0, none⟩) len c] :=
  have h : t < m + j := by omega
  .inr ⟨rfl, ⟨h, .inl ⟨t, c, by simp [sg, ht], rfl⟩⟩, trivial⟩
def isPp (n : Int) (p : Pp) : Bool := inB p.1 1 99 && (inB p.2.1 1 n && (inB p.2.2.1 1 n && (!decide (p.2.1 = p.2.2.1) && inB p.2.2.2 1 9)))
def ppR (a b : Pp) : Bool := decide (a.1 < b.1)
abbrev goodNTo (n : Int) (l : List Pp) (k : Nat) : Prop := ascTo pp0 (isPp n) ppR l k
def goodN (n : Int) (l : List Pp) : Bool := (inB n 1 8 && decide (l.length ≤ 10)) && asc pp0 (isPp n) ppR l
theorem goodN_no {n : Int} {l : List Pp} {k : Nat} (hk : k < l.length) (h : isPp n (l.getD k pp0) = false ∨ 0 < k ∧ ppR (l.getD (k - 1) pp0) (l.getD k pp0) = false) : goodN n l = false := by
  unfold goodN
  rw [asc_no hk h, Bool.and_false]
theorem goodN_end {n : Int} {l : List Pp} (h : goodNTo n l l.length) : goodN n l = (inB n 1 8 && decide (l.length ≤ 10)) := by
  unfold goodN
  rw [asc_yes h, Bool.and_true]
theorem NetAt.of {n : Int} {l : List Pp} (h : goodN n l = true) : NetAt n l := by
  unfold goodN at h
  simp only [Bool.and_eq_true, decide_eq_true_eq] at h
  obtain ⟨⟨h1, h2⟩, h3⟩ := h
  have h3 := asc_at h3
  simp only [inB, Bool.and_eq_true, decide_eq_true_eq] at h1
  refine ⟨h1, h2, fun i hi => ?_, fun i hi => ?_, fun i hi => ?_, fun i hi h0 => ?_⟩
  · have := (h3 i hi).1
    simp [isPp, inB, List.getD_eq_getElem?_getD] at this ⊢
    omega
  · have := (h3 i hi).1
    simp [isPp, inB, List.getD_eq_getElem?_getD] at this ⊢
    omega
  · have := (h3 i hi).1
    simp [isPp, inB, List.getD_eq_getElem?_getD] at this ⊢
    omega
  · have := (h3 i hi).2 h0
    simpa [ppR] using this
theorem nHas_A (n : Int) (tp m cp : Nat) (node : Int) (H : Heap) : AFunC Tryz.prog 54 [netV n tp m cp, .int .i64 node] H (.bool (inB node 1 n)) H := by
  refine AFunC.of_body Tryz.func54 (by kernel_rfl) rfl (by kernel_rfl) (by simp [Tryz.ntmps54]) ?_
  simp -dsimp -implicitDefEqProofs (disch := omega) [go_sem, -List.getD_eq_getElem?_getD, ite_yes]
  refine ACall.of (inside_A _ _ _ _) ?_
  simp -dsimp -implicitDefEqProofs (disch := omega) [go_sem, -List.getD_eq_getElem?_getD, ite_yes]
  exact fin_flat rfl rfl
theorem iValidNetwork_A (n : Int) (l : List Pp) (hl : l.length ≤ 1048577) (c : Nat) (H : Heap) (t : Nat) (hS : Sl ppE H t l) :
    AFunC Tryz.prog 75 [netV n t l.length c] H (.bool (goodN n l)) H := by
  refine AFunC.of_body Tryz.func75 (by kernel_rfl) rfl (by kernel_rfl) (by simp [Tryz.ntmps75]) ?_
  have ht := hS.lt
  have cs := fun k hk => hS.cells (s := 4) (fun _ => rfl) pp0 k hk
  have csk := fun k hk => hS.cell (s := 4) (fun _ => rfl) pp0 k 0 hk (by omega)
  simp only [Nat.add_zero, ppE] at csk cs
  simp -dsimp -implicitDefEqProofs (disch := omega) [go_sem, -List.getD_eq_getElem?_getD, ite_yes, ht]
  refine ACall.of (inside_A _ _ _ _) ?_
  simp -dsimp -implicitDefEqProofs (disch := omega) [go_sem, -List.getD_eq_getElem?_getD, ite_yes, ht]
  refine AIf.of (fun h1 => ?_) (fun h1 => ?_)
  · simp -dsimp -implicitDefEqProofs (disch := omega) [go_sem, -List.getD_eq_getElem?_getD, ite_yes]
    exact fin_flat rfl (by rw [Bool.not_eq_true'] at h1; rw [goodN, h1]; rfl)
  simp only [Bool.not_eq_false'] at h1
  simp -dsimp -implicitDefEqProofs (disch := omega) [go_sem, -List.getD_eq_getElem?_getD, ite_yes, ht]
  refine AIf.of (fun h2 => ?_) (fun h2 => ?_)
  · simp -dsimp -implicitDefEqProofs (disch := omega) [go_sem, -List.getD_eq_getElem?_getD, ite_yes]
    exact fin_flat rfl (by simp at h2; simp [goodN]; omega)
  simp at h2
  simp -dsimp -implicitDefEqProofs (disch := omega) [go_sem, -List.getD_eq_getElem?_getD, ite_yes, ht]
  refine ALoop.intro (ι := Nat) (fun k => k ≤ l.length ∧ goodNTo n l k) (fun k => [(1, .pointer (some ⟨H.length, 0, none⟩)), (16, .slice (some ⟨t, 0, none⟩) l.length c), (17, .int .i64 l.length), (18, .int .i64 k)]) (fun _ => H ++ [some ⟨[.int .i64 n, .slice (some ⟨t, 0, none⟩) l.length c], true, 26, 1⟩]) (fun k => l.length - k) 0 ⟨by omega, ascTo_zero⟩ ?_ ?_
  · refine weakS_mk [some 0] rfl ?_ (by simp -dsimp -implicitDefEqProofs (disch := omega) [go_sem, -List.getD_eq_getElem?_getD, ite_yes, ht])
    simp -dsimp -implicitDefEqProofs (disch := omega) [go_sem, -List.getD_eq_getElem?_getD, ite_yes, ht]
    exact wl_net ht
  · rintro k ⟨hk, hg⟩
    by_cases hlt : k < l.length
    · simp -dsimp -implicitDefEqProofs (disch := omega) [go_sem, -List.getD_eq_getElem?_getD, ite_yes, hlt, cs, ht]
      refine ADraw.quiet (by kernel_rfl) (by kernel_rfl) (by kernel_rfl) ?_
      simp -dsimp -implicitDefEqProofs (disch := omega) [go_sem, -List.getD_eq_getElem?_getD, ite_yes, hlt, cs, csk, ht]
      refine ACallQ.of (inside_A (l.getD k pp0).1 1 99 _) rfl ?_
      simp -dsimp -implicitDefEqProofs (disch := omega) [go_sem, -List.getD_eq_getElem?_getD, ite_yes, hlt, ht]
      cases e1 : inB (l.getD k pp0).1 1 99
      · simp -dsimp -implicitDefEqProofs (disch := omega) [go_sem, -List.getD_eq_getElem?_getD, ite_yes]
        exact fin_flat rfl (by rw [goodN_no hlt (.inl (by simp only [isPp, e1, Bool.false_and]))])
      simp -dsimp -implicitDefEqProofs (disch := omega) [go_sem, -List.getD_eq_getElem?_getD, ite_yes, hlt, ht]
      refine ACallQ.of (nHas_A n t l.length c (l.getD k pp0).2.1 _) rfl ?_
      cases e2 : inB (l.getD k pp0).2.1 1 n
      · simp -dsimp -implicitDefEqProofs (disch := omega) [go_sem, -List.getD_eq_getElem?_getD, ite_yes]
        exact fin_flat rfl (by rw [goodN_no hlt (.inl (by simp only [isPp, e1, e2, Bool.false_and, Bool.and_false]))])
      simp -dsimp -implicitDefEqProofs (disch := omega) [go_sem, -List.getD_eq_getElem?_getD, ite_yes, hlt, ht]
      refine ACallQ.of (nHas_A n t l.length c (l.getD k pp0).2.2.1 _) rfl ?_
      cases e3 : inB (l.getD k pp0).2.2.1 1 n
      · simp -dsimp -implicitDefEqProofs (disch := omega) [go_sem, -List.getD_eq_getElem?_getD, ite_yes]
        exact fin_flat rfl (by rw [goodN_no hlt (.inl (by simp only [isPp, e1, e2, e3, Bool.false_and, Bool.and_false]))])
      simp -dsimp -implicitDefEqProofs (disch := omega) [go_sem, -List.getD_eq_getElem?_getD, ite_yes, hlt, ht]
      cases e4 : decide ((l.getD k pp0).2.1 = (l.getD k pp0).2.2.1)
      rotate_left
      · simp -dsimp -implicitDefEqProofs (disch := omega) [go_sem, -List.getD_eq_getElem?_getD, ite_yes]
        exact fin_flat rfl (by rw [goodN_no hlt (.inl (by simp only [isPp, e1, e2, e3, e4, Bool.not_true, Bool.false_and, Bool.and_false]))])
      simp -dsimp -implicitDefEqProofs (disch := omega) [go_sem, -List.getD_eq_getElem?_getD, ite_yes, hlt, ht]
      refine ACallQ.of (inside_A (l.getD k pp0).2.2.2 1 9 _) rfl ?_
      cases e5 : inB (l.getD k pp0).2.2.2 1 9
      · simp -dsimp -implicitDefEqProofs (disch := omega) [go_sem, -List.getD_eq_getElem?_getD, ite_yes]
        exact fin_flat rfl (by rw [goodN_no hlt (.inl (by simp only [isPp, e1, e2, e3, e4, e5, Bool.false_and, Bool.and_false]))])
      have hk1 : isPp n (l.getD k pp0) = true := by simp only [isPp, e1, e2, e3, e4, e5]; rfl
      simp -dsimp -implicitDefEqProofs (disch := omega) [go_sem, -List.getD_eq_getElem?_getD, ite_yes, hlt, ht]
      refine AIf.of (fun h2 => ?_) (fun h2 => ?_)
      · simp at h2
        simp -dsimp -implicitDefEqProofs (disch := omega) [go_sem, -List.getD_eq_getElem?_getD, ite_yes, hlt, cs, csk, ht]
        refine AIf.of (fun h3 => ?_) (fun h3 => ?_)
        · simp -dsimp -implicitDefEqProofs (disch := omega) [go_sem, -List.getD_eq_getElem?_getD, ite_yes, hlt, cs, csk]
          exact fin_flat rfl (by rw [goodN_no hlt (.inr ⟨h2, by simpa [ppR] using h3⟩)])
        · simp -dsimp -implicitDefEqProofs (disch := omega) [go_sem, -List.getD_eq_getElem?_getD, ite_yes, hlt, cs, csk]
          refine LoopEnd.of (k + 1) ⟨by omega, hg.next hk1 fun _ => by simpa [ppR] using h3⟩ (by omega) (weakS_mk [some 0] rfl ?_ (by simp -dsimp -implicitDefEqProofs (disch := omega) [go_sem, -List.getD_eq_getElem?_getD, ite_yes, ht]))
          simp -dsimp -implicitDefEqProofs (disch := omega) [go_sem, -List.getD_eq_getElem?_getD, ite_yes, ht]
          exact wl_net ht
      · simp at h2
        simp -dsimp -implicitDefEqProofs (disch := omega) [go_sem, -List.getD_eq_getElem?_getD, ite_yes, hlt, cs, csk]
        refine LoopEnd.of (k + 1) ⟨by omega, hg.next hk1 fun h => by omega⟩ (by omega) (weakS_mk [some 0] rfl ?_ (by simp -dsimp -implicitDefEqProofs (disch := omega) [go_sem, -List.getD_eq_getElem?_getD, ite_yes, ht]))
        simp -dsimp -implicitDefEqProofs (disch := omega) [go_sem, -List.getD_eq_getElem?_getD, ite_yes, ht]
        exact wl_net ht
    · simp -dsimp -implicitDefEqProofs (disch := omega) [go_sem, -List.getD_eq_getElem?_getD, ite_yes, hlt]
      obtain rfl : k = l.length := by omega
      exact fin_flat rfl (by rw [goodN_end hg, h1, decide_eq_true (by omega)]; rfl)
end Go.Proofs.YtncblopbcnkinaaGreat
