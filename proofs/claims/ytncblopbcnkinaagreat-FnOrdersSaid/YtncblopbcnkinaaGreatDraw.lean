/- The cursor that draws: what its methods tell. -/
import Derived.Test.YtncblopbcnkinaaGreatFacts
import Derived.Test.YtncblopbcnkinaaGreatAm15
import Derived.Test.YtncblopbcnkinaaGreatRecNm
namespace Go.Proofs.YtncblopbcnkinaaGreat
open Go.Am
set_option linter.unusedVariables false
set_option linter.unusedSimpArgs false
set_option maxRecDepth 100000

theorem bAnd_255 (x : Int) : 0 ≤ bAnd .u64 x 255 ∧ bAnd .u64 x 255 ≤ 255 := by
  unfold bAnd
  rw [BitVec.toNat_and]
  have h : ((BitVec.ofInt IntKind.u64.bits x).toNat &&& (BitVec.ofInt IntKind.u64.bits 255).toNat) ≤ 255 := by
    refine Nat.le_trans Nat.and_le_right ?_
    decide +kernel
  generalize ((BitVec.ofInt IntKind.u64.bits x).toNat &&& (BitVec.ofInt IntKind.u64.bits 255).toNat) = n at h
  simp [IntKind.wrap, IntKind.signed, IntKind.bits]
  omega
theorem wrap_i64_u64 {n : Int} (h0 : 0 ≤ n) (h1 : n ≤ 255) : IntKind.u64.wrap n = n := by
  simp [IntKind.wrap, IntKind.signed, IntKind.bits]; omega
/-- the cells of a cursor -/
abbrev curX (tc n cc : Nat) (at_ seed : Int) : List Value := [.slice (some ⟨tc, 0, none⟩) n cc, .int .i64 at_, .int .u64 seed]
abbrev curB (tc n cc : Nat) (at_ seed : Int) : Option Blk := some ⟨curX tc n cc at_ seed, true, 44, 1⟩
/-- a cursor in block t, over the bytes of block tc -/
structure Cur (H : Heap) (t tc n cc : Nat) (at_ seed : Int) : Prop where
  blk : H.get t = curB tc n cc at_ seed
  code : tc < H.length
  ne : tc ≠ t
  size : n ≤ 9223372036854775807
  bytes : ∀ k, k < n → ∃ b : Int, 0 ≤ b ∧ b ≤ 255 ∧ aCells H ⟨tc, k, none⟩ 1 = some [.int .u8 b]
  pos : 0 ≤ at_
section
variable {H : Heap} {t tc n cc : Nat} {at_ seed : Int}
theorem Cur.lt (h : Cur H t tc n cc at_ seed) : t < H.length := Heap.get_lt h.blk
theorem Cur.cell (h : Cur H t tc n cc at_ seed) (off m : Nat) : aCells H ⟨t, off, none⟩ m = aC1 (curB tc n cc at_ seed) off m := by rw [aCells_eq, h.blk]
theorem Cur.app (h : Cur H t tc n cc at_ seed) (L : Heap) : Cur (H ++ L) t tc n cc at_ seed := by
  refine ⟨Heap.get_of h.blk, by have := h.code; simp; omega, h.ne, h.size, fun k hk => ?_, h.pos⟩
  obtain ⟨b, h1, h2, h3⟩ := h.bytes k hk
  exact ⟨b, h1, h2, by rw [aCells_old h.code]; exact h3⟩
theorem setCell (ht : t < H.length) (b : Option Blk) (off m : Nat) : aCells (H.set t b) ⟨t, off, none⟩ m = aC1 b off m := by rw [aCells_eq, Heap.get_set_self ht]
theorem setOther {s : Nat} (hs : s ≠ t) (b : Option Blk) (off m : Nat) : aCells (H.set t b) ⟨s, off, none⟩ m = aCells H ⟨s, off, none⟩ m := by
  rw [aCells_eq, aCells_eq]
  congr 1
  unfold Heap.get
  rw [List.getElem?_set_ne (fun e => hs e.symm)]
theorem Cur.step (h : Cur H t tc n cc at_ seed) {at' seed' : Int} (hp : 0 ≤ at') : Cur (H.set t (curB tc n cc at' seed')) t tc n cc at' seed' := by
  refine ⟨Heap.get_set_self h.lt, by simpa using h.code, h.ne, h.size, fun k hk => ?_, hp⟩
  obtain ⟨b, h1, h2, h3⟩ := h.bytes k hk
  exact ⟨b, h1, h2, by rw [setOther h.ne]; exact h3⟩
theorem Cur.wms (h : Cur H t tc n cc at_ seed) (at' seed' : Int) (js : List (Option Nat)) (m : Nat) : L2 (WM (sg H.length js) (H.length + m)) (curX tc n cc at' seed') (curX tc n cc at' seed') := by
  have := h.code
  exact ⟨⟨(show tc < H.length + m by omega), .inl ⟨tc, cc, by simp [sg, this], rfl⟩⟩, rfl, rfl, trivial⟩
theorem Cur.wm (h : Cur H t tc n cc at_ seed) (at' seed' : Int) : L2 (WM (sg H.length []) H.length) (curX tc n cc at' seed') (curX tc n cc at' seed') := by
  have := h.code
  exact ⟨⟨this, .inl ⟨tc, cc, by simp [sg, this], rfl⟩⟩, rfl, rfl, trivial⟩
end
/-- what a call of the cursor's leaves: the cursor has gone on, at most m bytes, and all else is as it was -/
def Went (H : Heap) (t tc n cc : Nat) (at_ : Int) (m : Int) (H' : Heap) : Prop := ∃ at' seed', at_ ≤ at' ∧ at' ≤ at_ + m ∧ H' = H.set t (curB tc n cc at' seed')
theorem endNext {H : Heap} {t tc n cc : Nat} {at_ seed : Int} (h : Cur H t tc n cc at_ seed) (b : Int) (b0 : 0 ≤ b) (b1 : b ≤ 255) (x : Int) :
    EndR H (fun v H' => ∃ b : Int, v = .int .i64 b ∧ 0 ≤ b ∧ b ≤ 255 ∧ Went H t tc n cc at_ 1 H') (.int .i64 b) (H.set t (curB tc n cc (at_ + 1) x)) :=
  EndR.of (.int .i64 b) (H.set t (curB tc n cc (at_ + 1) x)) ⟨b, rfl, b0, b1, at_ + 1, x, by omega, by omega, rfl⟩ (fin_setA [] h.lt (h.wm _ _) rfl (by simp) rfl)
theorem endBits {H : Heap} {t tc n cc : Nat} {at_ seed : Int} (h : Cur H t tc n cc at_ seed) (y : Int) (x : Int) :
    EndR H (fun v H' => ∃ b : Int, v = .int .i64 b ∧ 0 ≤ b ∧ b ≤ 255 ∧ Went H t tc n cc at_ 1 H') (.int .i64 (IntKind.i64.wrap (bAnd .u64 y 255))) (H.set t (curB tc n cc (at_ + 1) x)) := by
  obtain ⟨b0, b1⟩ := bAnd_255 y
  rw [wrap_ok (by omega) (by omega)]
  exact endNext h _ b0 b1 x
theorem next_R {H : Heap} {t tc n cc : Nat} {at_ seed : Int} (h : Cur H t tc n cc at_ seed) (hA : at_ ≤ 1000000000000000000) :
    AFunR Tryz.prog 98 [.pointer (some ⟨t, 0, none⟩)] H (fun v H' => ∃ b : Int, v = .int .i64 b ∧ 0 ≤ b ∧ b ≤ 255 ∧ Went H t tc n cc at_ 1 H') := by
  refine AFunR.of_body Tryz.func98 (by kernel_rfl) rfl (by kernel_rfl) (by simp [Tryz.ntmps98]) ?_
  have ht := h.lt
  have hc := h.cell
  have hb := h.blk
  have sz := h.size
  have p0 := h.pos
  have sc := fun b => setCell (H := H) ht b
  have gs := fun x => Heap.get_set_self (H := H) ht (x := x)
  simp only [curB, curX] at hc hb
  simp -dsimp -implicitDefEqProofs (disch := omega) [go_sem, -List.getD_eq_getElem?_getD, ite_yes]
  refine ADraw.quiet (by kernel_rfl) (by kernel_rfl) (by kernel_rfl) ?_
  simp -dsimp -implicitDefEqProofs (disch := omega) [go_sem, -List.getD_eq_getElem?_getD, ite_yes, hc]
  refine AIf.of (fun h1 => ?_) (fun h1 => ?_)
  · simp only [decide_eq_true_eq] at h1
    obtain ⟨b, b0, b1, hbc⟩ := h.bytes at_.toNat (by omega)
    simp -dsimp -implicitDefEqProofs (disch := omega) [go_sem, -List.getD_eq_getElem?_getD, ite_yes]
    refine ADraw.quiet (by kernel_rfl) (by kernel_rfl) (by kernel_rfl) ?_
    simp -dsimp -implicitDefEqProofs (disch := omega) [go_sem, -List.getD_eq_getElem?_getD, ite_yes, hc, h1, hbc]
    simp -dsimp -implicitDefEqProofs (disch := omega) [go_sem, -List.getD_eq_getElem?_getD, ite_yes, hc, hb, ht, sc, gs, List.set_set, List.length_set]
    refine ADraw.quiet (by kernel_rfl) (by kernel_rfl) (by kernel_rfl) ?_
    simp -dsimp -implicitDefEqProofs (disch := omega) [go_sem, -List.getD_eq_getElem?_getD, ite_yes, hc, hb, ht, sc, gs, List.set_set, List.length_set]
    refine AIf.of (fun h2 => ?_) (fun h2 => ?_)
    · simp -dsimp -implicitDefEqProofs (disch := omega) [go_sem, -List.getD_eq_getElem?_getD, ite_yes]
      exact endNext h b b0 b1 _
    · simp -dsimp -implicitDefEqProofs (disch := omega) [go_sem, -List.getD_eq_getElem?_getD, ite_yes, hc, hb, ht, sc, gs, List.set_set, List.length_set]
      exact endBits h _ _
  · simp -dsimp -implicitDefEqProofs (disch := omega) [go_sem, -List.getD_eq_getElem?_getD, ite_yes]
    simp -dsimp -implicitDefEqProofs (disch := omega) [go_sem, -List.getD_eq_getElem?_getD, ite_yes, hc, hb, ht, sc, gs, List.set_set, List.length_set]
    refine ADraw.quiet (by kernel_rfl) (by kernel_rfl) (by kernel_rfl) ?_
    simp -dsimp -implicitDefEqProofs (disch := omega) [go_sem, -List.getD_eq_getElem?_getD, ite_yes, hc, hb, ht, sc, gs, List.set_set, List.length_set]
    refine AIf.of (fun h2 => ?_) (fun h2 => ?_)
    · simp -dsimp -implicitDefEqProofs (disch := omega) [go_sem, -List.getD_eq_getElem?_getD, ite_yes]
      exact endNext h 0 (by omega) (by omega) _
    · simp -dsimp -implicitDefEqProofs (disch := omega) [go_sem, -List.getD_eq_getElem?_getD, ite_yes, hc, hb, ht, sc, gs, List.set_set, List.length_set]
      exact endBits h _ _
/-- a result without addresses, behind which the cursor has gone on -/
theorem went_flat {H : Heap} {t tc n cc : Nat} {at_ seed : Int} (h : Cur H t tc n cc at_ seed) {Φ : Value → Heap → Prop} {v : Value} (a' s' : Int) (L : Heap) (hv : flat2 v = true) (hΦ : Φ v (H.set t (curB tc n cc a' s'))) :
    EndR H Φ v (H.set t (curB tc n cc a' s') ++ L) := EndR.of v _ hΦ (fin_setA L h.lt (h.wm _ _) rfl rfl (WS_flat2 hv))
theorem went_flat0 {H : Heap} {t tc n cc : Nat} {at_ seed : Int} (h : Cur H t tc n cc at_ seed) {Φ : Value → Heap → Prop} {v : Value} (a' s' : Int) (hv : flat2 v = true) (hΦ : Φ v (H.set t (curB tc n cc a' s'))) :
    EndR H Φ v (H.set t (curB tc n cc a' s')) := EndR.of v _ hΦ (fin_setA [] h.lt (h.wm _ _) rfl (by simp) (WS_flat2 hv))
theorem pick_R {H : Heap} {t tc n cc : Nat} {at_ seed : Int} (h : Cur H t tc n cc at_ seed) (hA : at_ ≤ 900000000000000000) (m : Int) (hm : m ≤ 60000) :
    AFunR Tryz.prog 63 [.pointer (some ⟨t, 0, none⟩), .int .i64 m] H (fun v H' => ∃ r : Int, v = .int .i64 r ∧ 0 ≤ r ∧ (r < m ∨ r = 0) ∧ Went H t tc n cc at_ 2 H') := by
  refine AFunR.of_body Tryz.func63 (by kernel_rfl) rfl (by kernel_rfl) (by simp [Tryz.ntmps63]) ?_
  have ht := h.lt
  have p0 := h.pos
  simp -dsimp -implicitDefEqProofs (disch := omega) [go_sem, -List.getD_eq_getElem?_getD, ite_yes]
  refine AIf.of (fun h1 => ?_) (fun h1 => ?_)
  · simp -dsimp -implicitDefEqProofs (disch := omega) [go_sem, -List.getD_eq_getElem?_getD, ite_yes]
    exact EndR.of (.int .i64 0) H ⟨0, rfl, by omega, .inr rfl, at_, seed, by omega, by omega, (Heap.set_self h.blk).symm⟩ (fin_flat0 rfl rfl)
  simp only [decide_eq_false_iff_not] at h1
  have m0 : ¬ m = 0 := by omega
  simp -dsimp -implicitDefEqProofs (disch := omega) [go_sem, -List.getD_eq_getElem?_getD, ite_yes]
  refine ACall.via (next_R h (by omega)) ?_
  rintro _ _ ⟨b, rfl, b0, b1, a1, s1, q1, q2, rfl⟩
  have e1 := Int.emod_nonneg b m0
  have e2 := Int.emod_lt_of_pos b (show 0 < m by omega)
  simp -dsimp -implicitDefEqProofs (disch := omega) [go_sem, -List.getD_eq_getElem?_getD, ite_yes]
  refine AIf.of (fun h2 => ?_) (fun h2 => ?_)
  · simp -dsimp -implicitDefEqProofs (disch := omega) [go_sem, -List.getD_eq_getElem?_getD, ite_yes, ht]
    refine ACall.via (next_R (h.step (at' := a1) (seed' := s1) (by omega)) (by omega)) ?_
    rintro _ _ ⟨b', rfl, b0', b1', a2, s2, q1', q2', rfl⟩
    have f1 := Int.emod_nonneg (b * 256 + b') m0
    have f2 := Int.emod_lt_of_pos (b * 256 + b') (show 0 < m by omega)
    simp -dsimp -implicitDefEqProofs (disch := omega) [go_sem, -List.getD_eq_getElem?_getD, ite_yes, m0, List.set_set]
    exact went_flat0 h a2 s2 rfl ⟨(b * 256 + b') % m, rfl, f1, .inl f2, a2, s2, by omega, by omega, rfl⟩
  · simp -dsimp -implicitDefEqProofs (disch := omega) [go_sem, -List.getD_eq_getElem?_getD, ite_yes, m0]
    exact went_flat0 h a1 s1 rfl ⟨b % m, rfl, e1, .inl e2, a1, s1, by omega, by omega, rfl⟩
def POne (H : Heap) (t tc n cc : Nat) (at_ : Int) (v : Value) (H' : Heap) : Prop := ∃ b : Bool, v = .bool b ∧ Went H t tc n cc at_ 2 H'
theorem one_R {H : Heap} {t tc n cc : Nat} {at_ seed : Int} (h : Cur H t tc n cc at_ seed) (hA : at_ ≤ 900000000000000000) (m : Int) (hm : m ≤ 60000) :
    AFunR Tryz.prog 43 [.pointer (some ⟨t, 0, none⟩), .int .i64 m] H (POne H t tc n cc at_) := by
  refine AFunR.of_body Tryz.func43 (by kernel_rfl) rfl (by kernel_rfl) (by simp [Tryz.ntmps43]) ?_
  have ht := h.lt
  simp -dsimp -implicitDefEqProofs (disch := omega) [go_sem, -List.getD_eq_getElem?_getD, ite_yes]
  refine ACall.via (pick_R h hA m hm) ?_
  rintro _ _ ⟨r, rfl, r0, r1, a1, s1, q1, q2, rfl⟩
  simp -dsimp -implicitDefEqProofs (disch := omega) [go_sem, -List.getD_eq_getElem?_getD, ite_yes]
  exact went_flat0 h a1 s1 rfl ⟨_, rfl, a1, s1, q1, q2, rfl⟩
theorem among_R {H : Heap} {t tc n cc : Nat} {at_ seed : Int} (h : Cur H t tc n cc at_ seed) (hA : at_ ≤ 900000000000000000) (l : List Int) (hl : l.length ≤ 60000) (h0 : 0 < l.length) (c u : Nat) (hu : u ≠ t) (hU : Sl nmE H u l) :
    AFunR Tryz.prog 42 [.pointer (some ⟨t, 0, none⟩), .slice (some ⟨u, 0, none⟩) l.length c] H (fun v H' => ∃ x : Int, v = .int .i64 x ∧ x ∈ l ∧ Went H t tc n cc at_ 2 H') := by
  refine AFunR.of_body Tryz.func42 (by kernel_rfl) rfl (by kernel_rfl) (by simp [Tryz.ntmps42]) ?_
  have ht := h.lt
  have cs := fun k hk => hU.one (g := fun n => Value.int .i64 n) 0 k hk
  simp -dsimp -implicitDefEqProofs (disch := omega) [go_sem, -List.getD_eq_getElem?_getD, ite_yes]
  refine ACall.via (pick_R h hA l.length (by omega)) ?_
  rintro _ _ ⟨r, rfl, r0, r1, a1, s1, q1, q2, rfl⟩
  obtain ⟨k, rfl⟩ : ∃ k : Nat, r = (k : Int) := ⟨r.toNat, by omega⟩
  have hk : k < l.length := by omega
  have ck := cs k hk
  have so := setOther (H := H) hu (curB tc n cc a1 s1) k 1
  rw [ck] at so
  simp -dsimp -implicitDefEqProofs (disch := omega) [go_sem, -List.getD_eq_getElem?_getD, ite_yes, hk, so]
  exact went_flat0 h a1 s1 rfl ⟨_, rfl, by simp [List.getD, hk], a1, s1, q1, q2, rfl⟩
end Go.Proofs.YtncblopbcnkinaaGreat
