/- What is reached in a network: the reference's side. -/
import Derived.Test.YtamkdgjagjpmlaaHas
namespace Go.Proofs.Ytamkdgjagjpmlaa
open Go.Am
set_option linter.unusedVariables false
set_option linter.unusedSimpArgs false
set_option maxRecDepth 100000
set_option maxHeartbeats 2000000

/-- whether water goes through the end of a pipe -/
def openB (l : List Vl) (p : Pp) (nd : Int) : Bool := !decide (0 ≤ ixOf (shutAt p.1 nd) l)
structure Ix where
  W : List Bool
  ag : Bool
  N : List Int
  P : List Int
  tn : Nat
  cn : Nat
  tm : Nat
  cm : Nat
  K : Heap
/-- what two lists say of the elements -/
structure SpL (W : List Bool) (N P : List Int) (tn tm : Nat) (K : Heap) : Prop where
  w19 : W.length = 19
  sN : Sl nmE K tn N
  zN : blkSz K tn = some 1
  sP : Sl nmE K tm P
  zP : blkSz K tm = some 1
  upN : Up N
  upP : Up P
  memN : ∀ a : Nat, a < 9 → hasI N (a : Int) = W.getD a false
  memP : ∀ j : Nat, j < 10 → hasI P (j : Int) = W.getD (9 + j) false
  len : N.length + P.length ≤ cnt W
def Ix.st (i : Ix) : St := (i.W, i.ag)
theorem SpL.app {W : List Bool} {N P : List Int} {tn tm : Nat} {K L : Heap} (h : SpL W N P tn tm K) : SpL W N P tn tm (K ++ L) :=
  ⟨h.w19, h.sN.app, by rw [blkSz_old h.sN.lt]; exact h.zN, h.sP.app, by rw [blkSz_old h.sP.lt]; exact h.zP, h.upN, h.upP, h.memN, h.memP, h.len⟩
theorem SpL.bound {W : List Bool} {N P : List Int} {tn tm : Nat} {K : Heap} (h : SpL W N P tn tm K) : N.length + P.length ≤ 19 := by
  have := h.len
  have := cnt_le W
  have := h.w19
  omega
theorem getD_set2 {W : List Bool} {a b j : Nat} (ha : a < W.length) (hb : b < W.length) : ((W.set a true).set b true).getD j false = (decide (j = a) || (decide (j = b) || W.getD j false)) := by
  by_cases h1 : j = b
  · subst h1
    rw [getD_set_eq (by simpa using hb)]; simp
  · rw [getD_set_ne (fun h => h1 h.symm), decide_eq_false h1]
    by_cases h2 : j = a
    · subst h2; rw [getD_set_eq ha]; simp
    · rw [getD_set_ne (fun h => h2 h.symm), decide_eq_false h2]; simp
theorem cnt_set2 {W : List Bool} {a b : Nat} (ha : a < W.length) (hb : b < W.length) (hab : a ≠ b) (h : W.getD a false ≠ W.getD b false) : cnt ((W.set a true).set b true) = cnt W + 1 := by
  have c1 := cnt_set W a ha
  have c2 := cnt_set (W.set a true) b (by simpa using hb)
  rw [getD_set_ne hab] at c2
  cases h4 : W.getD a false <;> cases h5 : W.getD b false <;> rw [h4] at c1 h <;> rw [h5] at c2 h <;> simp at c1 c2 h <;> omega
/-- the node is put into its list -/
theorem SpL.putN {W : List Bool} {N P : List Int} {tn tm : Nat} {K : Heap} (h : SpL W N P tn tm K) {a k : Nat} (ha : a < 9) (hk : k < 10) (hn : hasI N (a : Int) = false) (hp : hasI P (k : Int) = true) :
    SpL ((W.set a true).set (9 + k) true) (putL N a) P K.length tm (K ++ [some ⟨(putL N a).flatMap nmE, true, 3, 1⟩]) := by
  have e1 := h.memN a ha
  have e2 := h.memP k hk
  rw [hn] at e1; rw [hp] at e2
  have hw := h.w19
  have hap := h.app (L := [some ⟨(putL N a).flatMap nmE, true, 3, 1⟩])
  refine ⟨by simp [hw], Sl.of rfl, by simp [blkSz_len, blkSz_cons], hap.sP, hap.zP, h.upN.put (of_decide_eq_false hn), h.upP, fun j hj => ?_, fun j hj => ?_, ?_⟩
  · rw [hasI_put, h.memN j hj, getD_set2 (by omega) (by omega)]
    rw [show decide ((j : Int) = (a : Int)) = decide (j = a) by rw [decide_eq_decide]; omega, decide_eq_false (show ¬ j = 9 + k by omega), Bool.false_or]
  · rw [h.memP j hj, getD_set2 (by omega) (by omega), decide_eq_false (show ¬ 9 + j = a by omega), Bool.false_or]
    by_cases hjk : j = k
    · subst hjk; rw [← e2]; simp
    · rw [decide_eq_false (show ¬ 9 + j = 9 + k by omega), Bool.false_or]
  · rw [putL_length, cnt_set2 (by omega) (by omega) (by omega) (by rw [← e1, ← e2]; simp)]
    have := h.len
    omega
/-- the pipe is put into its list -/
theorem SpL.putP {W : List Bool} {N P : List Int} {tn tm : Nat} {K : Heap} (h : SpL W N P tn tm K) {a k : Nat} (ha : a < 9) (hk : k < 10) (hn : hasI N (a : Int) = true) (hp : hasI P (k : Int) = false) :
    SpL ((W.set a true).set (9 + k) true) N (putL P k) tn K.length (K ++ [some ⟨(putL P k).flatMap nmE, true, 3, 1⟩]) := by
  have e1 := h.memN a ha
  have e2 := h.memP k hk
  rw [hn] at e1; rw [hp] at e2
  have hw := h.w19
  have hap := h.app (L := [some ⟨(putL P k).flatMap nmE, true, 3, 1⟩])
  refine ⟨by simp [hw], hap.sN, hap.zN, Sl.of rfl, by simp [blkSz_len, blkSz_cons], h.upN, h.upP.put (of_decide_eq_false hp), fun j hj => ?_, fun j hj => ?_, ?_⟩
  · rw [h.memN j hj, getD_set2 (by omega) (by omega), decide_eq_false (show ¬ j = 9 + k by omega), Bool.false_or]
    by_cases hja : j = a
    · subst hja; rw [← e1]; simp
    · rw [decide_eq_false hja, Bool.false_or]
  · rw [hasI_put, h.memP j hj, getD_set2 (by omega) (by omega), decide_eq_false (show ¬ 9 + j = a by omega), Bool.false_or]
    rw [show decide ((j : Int) = (k : Int)) = decide (9 + j = 9 + k) by rw [decide_eq_decide]; omega]
  · rw [putL_length, cnt_set2 (by omega) (by omega) (by omega) (by rw [← e1, ← e2]; simp)]
    have := h.len
    omega
theorem rep_getD (n i : Nat) : (List.replicate n false).getD i false = false := by
  rw [List.getD_eq_getElem?_getD, List.getElem?_replicate]
  split <;> rfl
theorem rep_cnt : ∀ n : Nat, cnt (List.replicate n false) = 0
  | 0 => rfl
  | n + 1 => by rw [List.replicate_succ, cnt, rep_cnt n]; rfl
theorem SpL.start {a : Nat} (ha : a < 9) (H : Heap) : SpL (start (a : Int)) [(a : Int)] [] H.length (H.length + 1) (H ++ [some ⟨[.int .i64 a], true, 3, 1⟩, some ⟨[], true, 3, 1⟩]) := by
  have hs : Go.Proofs.Ytamkdgjagjpmlaa.start (a : Int) = (List.replicate 19 false).set a true := by rw [Go.Proofs.Ytamkdgjagjpmlaa.start, Int.toNat_natCast]
  have hl : (List.replicate 19 false).length = 19 := List.length_replicate
  refine ⟨start_length _, Sl.of rfl, by simp [blkSz_len, blkSz_cons], Sl.of1 rfl, by simp [blkSz_len_add, blkSz_cons], up_one _, up_nil, fun j hj => ?_, fun j hj => ?_, ?_⟩
  · rw [hs]
    by_cases h : j = a
    · subst h; rw [getD_set_eq (by omega)]; exact decide_eq_true (by simp)
    · rw [getD_set_ne (fun e => h e.symm), rep_getD]
      exact decide_eq_false (by simp; omega)
  · rw [hs, getD_set_ne (by omega), rep_getD]
    exact decide_eq_false (by simp)
  · have c1 := cnt_set (List.replicate 19 false) a (by omega)
    rw [rep_getD, rep_cnt] at c1
    rw [hs]
    simp only [List.length_cons, List.length_nil]
    simp only [Bool.false_eq_true, if_false] at c1
    omega
/-- what the reference's spreading hands out -/
def SprOut (b0 : Nat) (H : Heap) (R : List Bool) (v : Value) (G : Heap) : Prop :=
  ∃ N P tn cn tm cm, v = .tuple #[.slice (some ⟨tn, 0, none⟩) N.length cn, .slice (some ⟨tm, 0, none⟩) P.length cm] ∧ KExt b0 H G ∧ SpL R N P tn tm G
end Go.Proofs.Ytamkdgjagjpmlaa
