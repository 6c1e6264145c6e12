/- slices.Insert at alarms, at the end. -/
import Derived.Test.YtokafhinmakdnaaTakeD
namespace Go.Proofs.Ytokafhinmakdnaa
open Go.Am
set_option linter.unusedVariables false
set_option linter.unusedSimpArgs false
set_option maxRecDepth 100000
set_option maxHeartbeats 4000000
theorem Weak.under {H H' Hf : Heap} {σ : Sig} {t : Nat} (hw : Weak (H.set t none) σ H' Hf) : Weak H σ H' Hf where
  len := by simpa using hw.len
  fix_ := fun s hs => hw.fix_ s (by simpa using hs)
  blk := fun s b' hb => by
    rcases hw.blk s b' hb with ⟨h1, h2, h3⟩ | h | h
    · by_cases e : s = t
      · subst e
        rw [Heap.get_set_self (by simpa using h1)] at h3
        cases h3
      · exact .inl ⟨by simpa using h1, h2, by rwa [Heap.get_set_ne e] at h3⟩
    · exact .inr (.inl h)
    · exact .inr (.inr h)
  inj := hw.inj
theorem fin_none {H L L' : Heap} {t : Nat} {v vf : Value} (js : List (Option Nat)) (hj : jsOk js = true) (h : wkL (sg H.length js) (H.length + L'.length) L L' js)
    (hv : WS (sg H.length js) (H.length + L'.length) v vf) : WeakV H v (H.set t none ++ L') vf (H.set t none ++ L) := by
  have e : (H.set t none).length = H.length := by simp
  have k := weak_mk (H := H.set t none) (L := L) (L' := L') js hj (by rw [e]; exact h)
  rw [e] at k
  exact ⟨_, Weak.under k, by simpa using hv⟩
theorem insEnd_new {H : Heap} {tg tv n c vc : Nat} {bx vx : List Value} (hn : n ≤ 1000000000)
    (hb : H.get tg = some ⟨bx, true, 74, 4⟩) (hfit : bx.length = n * 4) (hf : bx.all flat = true)
    (hv : H.get tv = some ⟨vx, true, 74, 4⟩) (hvl : vx.length = 4) (hvf : vx.all flat = true) (hne : tv ≠ tg) :
    AFunC Try.prog 80 [.slice (some ⟨tg, 0, none⟩) n c, .int .i64 n, .slice (some ⟨tv, 0, none⟩) 1 vc] H
      (.slice (some ⟨H.length, 0, none⟩) (n + 1) (n + 1)) (H.set tg none ++ [some ⟨bx ++ vx, true, 74, 4⟩]) := by
  refine AFunC.of_body Try.func80 (by kernel_rfl) rfl (by kernel_rfl) (by simp [Try.ntmps80]) ?_
  have ht := Heap.get_lt hb
  have htv := Heap.get_lt hv
  have bz : blkSz H tg = some 4 := by unfold blkSz; rw [hb]
  have ca : aCells H ⟨tv, 0, none⟩ 4 = some vx := by
    rw [aCells_eq, hv, aC1]
    simp only [hvl]
    rw [if_pos (by omega), List.drop_zero, List.take_of_length_le (by omega)]
  have nf : (bx ++ vx).all flat = true := by rw [List.all_append, hf, hvf]; rfl
  simp -dsimp -implicitDefEqProofs (disch := omega) [go_sem, -List.getD_eq_getElem?_getD, ite_yes, ht, htv, hb, hv, bz, ca, hfit]
  refine ⟨by omega, fin_none [some 0] rfl ?_ (by simp -dsimp -implicitDefEqProofs (disch := omega) [go_sem, -List.getD_eq_getElem?_getD, ite_yes])⟩
  simp -dsimp -implicitDefEqProofs (disch := omega) [go_sem, -List.getD_eq_getElem?_getD, ite_yes]
  exact .inl ⟨rfl, nf⟩
theorem insEnd_room {H : Heap} {tg tv n c vc : Nat} {bx vx : List Value} (hn : n ≤ 1000000000)
    (hb : H.get tg = some ⟨bx, true, 74, 4⟩) (hfit : bx.length = (n + 1) * 4) (hf : bx.all flat = true)
    (hv : H.get tv = some ⟨vx, true, 74, 4⟩) (hvl : vx.length = 4) (hvf : vx.all flat = true) (hne : tv ≠ tg) :
    AFunC Try.prog 80 [.slice (some ⟨tg, 0, none⟩) n c, .int .i64 n, .slice (some ⟨tv, 0, none⟩) 1 vc] H
      (.slice (some ⟨tg, 0, none⟩) (n + 1) (n + 1)) (H.set tg (some ⟨bx.take (n * 4) ++ vx, true, 74, 4⟩)) := by
  refine AFunC.of_body Try.func80 (by kernel_rfl) rfl (by kernel_rfl) (by simp [Try.ntmps80]) ?_
  have ht := Heap.get_lt hb
  have htv := Heap.get_lt hv
  have bz : blkSz H tg = some 4 := by unfold blkSz; rw [hb]
  have ca : aCells H ⟨tv, 0, none⟩ 4 = some vx := by
    rw [aCells_eq, hv, aC1]
    simp only [hvl]
    rw [if_pos (by omega), List.drop_zero, List.take_of_length_le (by omega)]
  have nf : (bx.take (n * 4) ++ vx).all flat = true := by
    rw [List.all_append, hvf, Bool.and_true, List.all_eq_true]
    exact fun x hx => List.all_eq_true.1 hf x (List.mem_of_mem_take hx)
  have hd : bx.drop ((n + 1) * 4) = [] := List.drop_of_length_le (by omega)
  have hno : ¬ (n + 1) * 4 = n * 4 := by omega
  simp -dsimp -implicitDefEqProofs (disch := omega) [go_sem, -List.getD_eq_getElem?_getD, ite_yes, ht, htv, hb, hv, bz, ca, hfit, hno, hd]
  exact fin_setA (b := ⟨bx.take (n * 4) ++ vx, true, 74, 4⟩) [] ht (L2.refl fun x hx => WM_flat (List.all_eq_true.1 nf x hx)) rfl (by simp) (by simp -dsimp -implicitDefEqProofs (disch := omega) [go_sem, -List.getD_eq_getElem?_getD, ite_yes, ht])
end Go.Proofs.Ytokafhinmakdnaa
