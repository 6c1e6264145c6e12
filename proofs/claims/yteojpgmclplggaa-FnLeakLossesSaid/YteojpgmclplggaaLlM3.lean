/- Draw, DrawBy, DrawLk, DrawAr, DrawAr2, in one text. -/
import Derived.Test.YteojpgmclplggaaFacts
import Derived.Test.YteojpgmclplggaaAm15
import Derived.Test.YteojpgmclplggaaLlM1
import Derived.Test.YteojpgmclplggaaAm18
import Derived.Test.YteojpgmclplggaaLlM2
/- The cursor that draws: what its methods tell. -/
namespace Go.Proofs.Yteojpgmclplggaa
open Go.Am
set_option linter.unusedVariables false
set_option linter.unusedSimpArgs false
set_option maxRecDepth 100000

theorem bAnd_255 (x : Int) : 0 ≤ bAnd .u64 x 255 ∧ bAnd .u64 x 255 ≤ 255 := by
  unfold bAnd
  rw [BitVec.toNat_and]
  have h : ((BitVec.ofInt IntKind.u64.bits x).toNat &&& (BitVec.ofInt IntKind.u64.bits 255).toNat) ≤ 255 := by
    refine Nat.le_trans Nat.and_le_right ?_
    decide +kernel
  generalize ((BitVec.ofInt IntKind.u64.bits x).toNat &&& (BitVec.ofInt IntKind.u64.bits 255).toNat) = n at h
  simp [IntKind.wrap, IntKind.signed, IntKind.bits]
  omega
theorem wrap_i64_u64 {n : Int} (h0 : 0 ≤ n) (h1 : n ≤ 255) : IntKind.u64.wrap n = n := by
  simp [IntKind.wrap, IntKind.signed, IntKind.bits]; omega
/-- the cells of a cursor -/
abbrev curX (tc n cc : Nat) (at_ seed : Int) : List Value := [.slice (some ⟨tc, 0, none⟩) n cc, .int .i64 at_, .int .u64 seed]
abbrev curB (tc n cc : Nat) (at_ seed : Int) : Option Blk := some ⟨curX tc n cc at_ seed, true, 47, 1⟩
/-- a cursor in block t, over the bytes of block tc -/
structure Cur (H : Heap) (t tc n cc : Nat) (at_ seed : Int) : Prop where
  blk : H.get t = curB tc n cc at_ seed
  code : tc < H.length
  ne : tc ≠ t
  size : n ≤ 9223372036854775807
  bytes : ∀ k, k < n → ∃ b : Int, 0 ≤ b ∧ b ≤ 255 ∧ aCells H ⟨tc, k, none⟩ 1 = some [.int .u8 b]
  pos : 0 ≤ at_
section
variable {H : Heap} {t tc n cc : Nat} {at_ seed : Int}
theorem Cur.lt (h : Cur H t tc n cc at_ seed) : t < H.length := Heap.get_lt h.blk
theorem Cur.cell (h : Cur H t tc n cc at_ seed) (off m : Nat) : aCells H ⟨t, off, none⟩ m = aC1 (curB tc n cc at_ seed) off m := by rw [aCells_eq, h.blk]
theorem Cur.app (h : Cur H t tc n cc at_ seed) (L : Heap) : Cur (H ++ L) t tc n cc at_ seed := by
  refine ⟨Heap.get_of h.blk, by have := h.code; simp; omega, h.ne, h.size, fun k hk => ?_, h.pos⟩
  obtain ⟨b, h1, h2, h3⟩ := h.bytes k hk
  exact ⟨b, h1, h2, by rw [aCells_old h.code]; exact h3⟩
theorem setCell (ht : t < H.length) (b : Option Blk) (off m : Nat) : aCells (H.set t b) ⟨t, off, none⟩ m = aC1 b off m := by rw [aCells_eq, Heap.get_set_self ht]
theorem setOther {s : Nat} (hs : s ≠ t) (b : Option Blk) (off m : Nat) : aCells (H.set t b) ⟨s, off, none⟩ m = aCells H ⟨s, off, none⟩ m := by
  rw [aCells_eq, aCells_eq]
  congr 1
  unfold Heap.get
  rw [List.getElem?_set_ne (fun e => hs e.symm)]
theorem Cur.step (h : Cur H t tc n cc at_ seed) {at' seed' : Int} (hp : 0 ≤ at') : Cur (H.set t (curB tc n cc at' seed')) t tc n cc at' seed' := by
  refine ⟨Heap.get_set_self h.lt, by simpa using h.code, h.ne, h.size, fun k hk => ?_, hp⟩
  obtain ⟨b, h1, h2, h3⟩ := h.bytes k hk
  exact ⟨b, h1, h2, by rw [setOther h.ne]; exact h3⟩
theorem Cur.wms (h : Cur H t tc n cc at_ seed) (at' seed' : Int) (js : List (Option Nat)) (m : Nat) : L2 (WM (sg H.length js) (H.length + m)) (curX tc n cc at' seed') (curX tc n cc at' seed') := by
  have := h.code
  exact ⟨⟨(show tc < H.length + m by omega), .inl ⟨tc, cc, by simp [sg, this], rfl⟩⟩, rfl, rfl, trivial⟩
theorem Cur.wm (h : Cur H t tc n cc at_ seed) (at' seed' : Int) : L2 (WM (sg H.length []) H.length) (curX tc n cc at' seed') (curX tc n cc at' seed') := by
  have := h.code
  exact ⟨⟨this, .inl ⟨tc, cc, by simp [sg, this], rfl⟩⟩, rfl, rfl, trivial⟩
end
/-- what a call of the cursor's leaves: the cursor has gone on, at most m bytes, and all else is as it was -/
def Went (H : Heap) (t tc n cc : Nat) (at_ : Int) (m : Int) (H' : Heap) : Prop := ∃ at' seed', at_ ≤ at' ∧ at' ≤ at_ + m ∧ H' = H.set t (curB tc n cc at' seed')
theorem endNext {H : Heap} {t tc n cc : Nat} {at_ seed : Int} (h : Cur H t tc n cc at_ seed) (b : Int) (b0 : 0 ≤ b) (b1 : b ≤ 255) (x : Int) :
    EndR H (fun v H' => ∃ b : Int, v = .int .i64 b ∧ 0 ≤ b ∧ b ≤ 255 ∧ Went H t tc n cc at_ 1 H') (.int .i64 b) (H.set t (curB tc n cc (at_ + 1) x)) :=
  EndR.of (.int .i64 b) (H.set t (curB tc n cc (at_ + 1) x)) ⟨b, rfl, b0, b1, at_ + 1, x, by omega, by omega, rfl⟩ (fin_setA [] h.lt (h.wm _ _) rfl (by simp) rfl)
theorem endBits {H : Heap} {t tc n cc : Nat} {at_ seed : Int} (h : Cur H t tc n cc at_ seed) (y : Int) (x : Int) :
    EndR H (fun v H' => ∃ b : Int, v = .int .i64 b ∧ 0 ≤ b ∧ b ≤ 255 ∧ Went H t tc n cc at_ 1 H') (.int .i64 (IntKind.i64.wrap (bAnd .u64 y 255))) (H.set t (curB tc n cc (at_ + 1) x)) := by
  obtain ⟨b0, b1⟩ := bAnd_255 y
  rw [wrap_ok (by omega) (by omega)]
  exact endNext h _ b0 b1 x
theorem next_R {H : Heap} {t tc n cc : Nat} {at_ seed : Int} (h : Cur H t tc n cc at_ seed) (hA : at_ ≤ 1000000000000000000) :
    AFunR Try.prog 49 [.pointer (some ⟨t, 0, none⟩)] H (fun v H' => ∃ b : Int, v = .int .i64 b ∧ 0 ≤ b ∧ b ≤ 255 ∧ Went H t tc n cc at_ 1 H') := by
  refine AFunR.of_body Try.func49 (by kernel_rfl) rfl (by kernel_rfl) (by simp [Try.ntmps49]) ?_
  have ht := h.lt
  have hc := h.cell
  have hb := h.blk
  have sz := h.size
  have p0 := h.pos
  have sc := fun b => setCell (H := H) ht b
  have gs := fun x => Heap.get_set_self (H := H) ht (x := x)
  simp only [curB, curX] at hc hb
  simp -dsimp -implicitDefEqProofs (disch := omega) [go_sem, -List.getD_eq_getElem?_getD, ite_yes]
  refine ADraw.quiet (by kernel_rfl) (by kernel_rfl) (by kernel_rfl) ?_
  simp -dsimp -implicitDefEqProofs (disch := omega) [go_sem, -List.getD_eq_getElem?_getD, ite_yes, hc]
  refine AIf.of (fun h1 => ?_) (fun h1 => ?_)
  · simp only [decide_eq_true_eq] at h1
    obtain ⟨b, b0, b1, hbc⟩ := h.bytes at_.toNat (by omega)
    simp -dsimp -implicitDefEqProofs (disch := omega) [go_sem, -List.getD_eq_getElem?_getD, ite_yes]
    refine ADraw.quiet (by kernel_rfl) (by kernel_rfl) (by kernel_rfl) ?_
    simp -dsimp -implicitDefEqProofs (disch := omega) [go_sem, -List.getD_eq_getElem?_getD, ite_yes, hc, h1, hbc]
    simp -dsimp -implicitDefEqProofs (disch := omega) [go_sem, -List.getD_eq_getElem?_getD, ite_yes, hc, hb, ht, sc, gs, List.set_set, List.length_set]
    refine ADraw.quiet (by kernel_rfl) (by kernel_rfl) (by kernel_rfl) ?_
    simp -dsimp -implicitDefEqProofs (disch := omega) [go_sem, -List.getD_eq_getElem?_getD, ite_yes, hc, hb, ht, sc, gs, List.set_set, List.length_set]
    refine AIf.of (fun h2 => ?_) (fun h2 => ?_)
    · simp -dsimp -implicitDefEqProofs (disch := omega) [go_sem, -List.getD_eq_getElem?_getD, ite_yes]
      exact endNext h b b0 b1 _
    · simp -dsimp -implicitDefEqProofs (disch := omega) [go_sem, -List.getD_eq_getElem?_getD, ite_yes, hc, hb, ht, sc, gs, List.set_set, List.length_set]
      exact endBits h _ _
  · simp -dsimp -implicitDefEqProofs (disch := omega) [go_sem, -List.getD_eq_getElem?_getD, ite_yes]
    simp -dsimp -implicitDefEqProofs (disch := omega) [go_sem, -List.getD_eq_getElem?_getD, ite_yes, hc, hb, ht, sc, gs, List.set_set, List.length_set]
    refine ADraw.quiet (by kernel_rfl) (by kernel_rfl) (by kernel_rfl) ?_
    simp -dsimp -implicitDefEqProofs (disch := omega) [go_sem, -List.getD_eq_getElem?_getD, ite_yes, hc, hb, ht, sc, gs, List.set_set, List.length_set]
    refine AIf.of (fun h2 => ?_) (fun h2 => ?_)
    · simp -dsimp -implicitDefEqProofs (disch := omega) [go_sem, -List.getD_eq_getElem?_getD, ite_yes]
      exact endNext h 0 (by omega) (by omega) _
    · simp -dsimp -implicitDefEqProofs (disch := omega) [go_sem, -List.getD_eq_getElem?_getD, ite_yes, hc, hb, ht, sc, gs, List.set_set, List.length_set]
      exact endBits h _ _
/-- a result without addresses, behind which the cursor has gone on -/
theorem went_flat {H : Heap} {t tc n cc : Nat} {at_ seed : Int} (h : Cur H t tc n cc at_ seed) {Φ : Value → Heap → Prop} {v : Value} (a' s' : Int) (L : Heap) (hv : flat2 v = true) (hΦ : Φ v (H.set t (curB tc n cc a' s'))) :
    EndR H Φ v (H.set t (curB tc n cc a' s') ++ L) := EndR.of v _ hΦ (fin_setA L h.lt (h.wm _ _) rfl rfl (WS_flat2 hv))
theorem went_flat0 {H : Heap} {t tc n cc : Nat} {at_ seed : Int} (h : Cur H t tc n cc at_ seed) {Φ : Value → Heap → Prop} {v : Value} (a' s' : Int) (hv : flat2 v = true) (hΦ : Φ v (H.set t (curB tc n cc a' s'))) :
    EndR H Φ v (H.set t (curB tc n cc a' s')) := EndR.of v _ hΦ (fin_setA [] h.lt (h.wm _ _) rfl (by simp) (WS_flat2 hv))
theorem pick_R {H : Heap} {t tc n cc : Nat} {at_ seed : Int} (h : Cur H t tc n cc at_ seed) (hA : at_ ≤ 900000000000000000) (m : Int) (hm : m ≤ 60000) :
    AFunR Try.prog 22 [.pointer (some ⟨t, 0, none⟩), .int .i64 m] H (fun v H' => ∃ r : Int, v = .int .i64 r ∧ 0 ≤ r ∧ (r < m ∨ r = 0) ∧ Went H t tc n cc at_ 2 H') := by
  refine AFunR.of_body Try.func22 (by kernel_rfl) rfl (by kernel_rfl) (by simp [Try.ntmps22]) ?_
  have ht := h.lt
  have p0 := h.pos
  simp -dsimp -implicitDefEqProofs (disch := omega) [go_sem, -List.getD_eq_getElem?_getD, ite_yes]
  refine AIf.of (fun h1 => ?_) (fun h1 => ?_)
  · simp -dsimp -implicitDefEqProofs (disch := omega) [go_sem, -List.getD_eq_getElem?_getD, ite_yes]
    exact EndR.of (.int .i64 0) H ⟨0, rfl, by omega, .inr rfl, at_, seed, by omega, by omega, (Heap.set_self h.blk).symm⟩ (fin_flat0 rfl rfl)
  simp only [decide_eq_false_iff_not] at h1
  have m0 : ¬ m = 0 := by omega
  simp -dsimp -implicitDefEqProofs (disch := omega) [go_sem, -List.getD_eq_getElem?_getD, ite_yes]
  refine ACall.via (next_R h (by omega)) ?_
  rintro _ _ ⟨b, rfl, b0, b1, a1, s1, q1, q2, rfl⟩
  have e1 := Int.emod_nonneg b m0
  have e2 := Int.emod_lt_of_pos b (show 0 < m by omega)
  simp -dsimp -implicitDefEqProofs (disch := omega) [go_sem, -List.getD_eq_getElem?_getD, ite_yes]
  refine AIf.of (fun h2 => ?_) (fun h2 => ?_)
  · simp -dsimp -implicitDefEqProofs (disch := omega) [go_sem, -List.getD_eq_getElem?_getD, ite_yes, ht]
    refine ACall.via (next_R (h.step (at' := a1) (seed' := s1) (by omega)) (by omega)) ?_
    rintro _ _ ⟨b', rfl, b0', b1', a2, s2, q1', q2', rfl⟩
    have f1 := Int.emod_nonneg (b * 256 + b') m0
    have f2 := Int.emod_lt_of_pos (b * 256 + b') (show 0 < m by omega)
    simp -dsimp -implicitDefEqProofs (disch := omega) [go_sem, -List.getD_eq_getElem?_getD, ite_yes, m0, List.set_set]
    exact went_flat0 h a2 s2 rfl ⟨(b * 256 + b') % m, rfl, f1, .inl f2, a2, s2, by omega, by omega, rfl⟩
  · simp -dsimp -implicitDefEqProofs (disch := omega) [go_sem, -List.getD_eq_getElem?_getD, ite_yes, m0]
    exact went_flat0 h a1 s1 rfl ⟨b % m, rfl, e1, .inl e2, a1, s1, by omega, by omega, rfl⟩
def POne (H : Heap) (t tc n cc : Nat) (at_ : Int) (v : Value) (H' : Heap) : Prop := ∃ b : Bool, v = .bool b ∧ Went H t tc n cc at_ 2 H'
theorem one_R {H : Heap} {t tc n cc : Nat} {at_ seed : Int} (h : Cur H t tc n cc at_ seed) (hA : at_ ≤ 900000000000000000) (m : Int) (hm : m ≤ 60000) :
    AFunR Try.prog 29 [.pointer (some ⟨t, 0, none⟩), .int .i64 m] H (POne H t tc n cc at_) := by
  refine AFunR.of_body Try.func29 (by kernel_rfl) rfl (by kernel_rfl) (by simp [Try.ntmps29]) ?_
  have ht := h.lt
  simp -dsimp -implicitDefEqProofs (disch := omega) [go_sem, -List.getD_eq_getElem?_getD, ite_yes]
  refine ACall.via (pick_R h hA m hm) ?_
  rintro _ _ ⟨r, rfl, r0, r1, a1, s1, q1, q2, rfl⟩
  simp -dsimp -implicitDefEqProofs (disch := omega) [go_sem, -List.getD_eq_getElem?_getD, ite_yes]
  exact went_flat0 h a1 s1 rfl ⟨_, rfl, a1, s1, q1, q2, rfl⟩
theorem among_R {H : Heap} {t tc n cc : Nat} {at_ seed : Int} (h : Cur H t tc n cc at_ seed) (hA : at_ ≤ 900000000000000000) (l : List Int) (hl : l.length ≤ 60000) (h0 : 0 < l.length) (c u : Nat) (hu : u ≠ t) (hU : Sl nmE H u l) :
    AFunR Try.prog 30 [.pointer (some ⟨t, 0, none⟩), .slice (some ⟨u, 0, none⟩) l.length c] H (fun v H' => ∃ x : Int, v = .int .i64 x ∧ x ∈ l ∧ Went H t tc n cc at_ 2 H') := by
  refine AFunR.of_body Try.func30 (by kernel_rfl) rfl (by kernel_rfl) (by simp [Try.ntmps30]) ?_
  have ht := h.lt
  have cs := fun k hk => hU.one (g := fun n => Value.int .i64 n) 0 k hk
  simp -dsimp -implicitDefEqProofs (disch := omega) [go_sem, -List.getD_eq_getElem?_getD, ite_yes]
  refine ACall.via (pick_R h hA l.length (by omega)) ?_
  rintro _ _ ⟨r, rfl, r0, r1, a1, s1, q1, q2, rfl⟩
  obtain ⟨k, rfl⟩ : ∃ k : Nat, r = (k : Int) := ⟨r.toNat, by omega⟩
  have hk : k < l.length := by omega
  have ck := cs k hk
  have so := setOther (H := H) hu (curB tc n cc a1 s1) k 1
  rw [ck] at so
  simp -dsimp -implicitDefEqProofs (disch := omega) [go_sem, -List.getD_eq_getElem?_getD, ite_yes, hk, so]
  exact went_flat0 h a1 s1 rfl ⟨_, rfl, by simp [List.getD, hk], a1, s1, q1, q2, rfl⟩
end Go.Proofs.Yteojpgmclplggaa
/- A block of bytes, and a cursor over it in a new block. -/
namespace Go.Proofs.Yteojpgmclplggaa
open Go.Am
set_option linter.unusedVariables false
set_option linter.unusedSimpArgs false
set_option maxRecDepth 100000

/-- block tc has n bytes -/
structure Bytes (H : Heap) (tc n : Nat) : Prop where
  lt : tc < H.length
  size : n ≤ 9223372036854775807
  bytes : ∀ k, k < n → ∃ b : Int, 0 ≤ b ∧ b ≤ 255 ∧ aCells H ⟨tc, k, none⟩ 1 = some [.int .u8 b]
theorem Bytes.app {H : Heap} {tc n : Nat} (h : Bytes H tc n) (L : Heap) : Bytes (H ++ L) tc n :=
  ⟨by have := h.lt; simp; omega, h.size, fun k hk => by
    obtain ⟨b, h1, h2, h3⟩ := h.bytes k hk
    exact ⟨b, h1, h2, by rw [aCells_old h.lt]; exact h3⟩⟩
theorem Bytes.cur {H : Heap} {tc n : Nat} (h : Bytes H tc n) (cc : Nat) : Cur (H ++ [curB tc n cc 0 0]) H.length tc n cc 0 0 :=
  ⟨by rw [Heap.get_len]; rfl, by have := h.lt; simp; omega, Nat.ne_of_lt h.lt, h.size, (h.app _).bytes, Int.le_refl _⟩
theorem Bytes.curAt {H : Heap} {tc n : Nat} (h : Bytes H tc n) (cc : Nat) {a s : Int} (ha : 0 ≤ a) (L : Heap) : Cur (H ++ curB tc n cc a s :: L) H.length tc n cc a s :=
  ⟨by rw [Heap.get_len]; rfl, by have := h.lt; simp; omega, Nat.ne_of_lt h.lt, h.size, (h.app _).bytes, ha⟩
theorem Bytes.curJ {H L : Heap} {tc n cc : Nat} (h : Bytes H tc n) (j : Nat) {a s : Int} (hg : Heap.get L j = curB tc n cc a s) (ha : 0 ≤ a) : Cur (H ++ L) (H.length + j) tc n cc a s :=
  ⟨by rw [Heap.get_len_add]; exact hg, by have := h.lt; simp; omega, by have := h.lt; omega, h.size, (h.app _).bytes, ha⟩
theorem Bytes.wms {H : Heap} {tc n : Nat} (h : Bytes H tc n) (cc : Nat) (a s : Int) (js : List (Option Nat)) (m : Nat) : L2 (WM (sg H.length js) (H.length + m)) (curX tc n cc a s) (curX tc n cc a s) := by
  have := h.lt
  exact ⟨⟨(show tc < H.length + m by omega), .inl ⟨tc, cc, by simp [sg, this], rfl⟩⟩, rfl, rfl, trivial⟩
end Go.Proofs.Yteojpgmclplggaa
/- Losses, hours and orders that are drawn. -/
namespace Go.Proofs.Yteojpgmclplggaa
open Go.Am
set_option linter.unusedVariables false
set_option linter.unusedSimpArgs false
set_option maxRecDepth 100000
set_option maxHeartbeats 8000000
def PTwo (H : Heap) (t tc n cc : Nat) (at_ : Int) (v : Value) (H' : Heap) : Prop :=
  ∃ (lo ho : List Int) (a s : Int), v = .tuple #[.slice (some ⟨H.length, 0, none⟩) lo.length lo.length, .slice (some ⟨H.length + 1, 0, none⟩) ho.length ho.length] ∧ lo.length ≤ 20 ∧ ho.length ≤ 20 ∧ at_ ≤ a ∧ a ≤ at_ + 300 ∧ H' = H.set t (curB tc n cc a s) ++ [some ⟨lo.flatMap nmE, true, 3, 1⟩, some ⟨ho.flatMap nmE, true, 3, 1⟩]
structure TwI where
  k : Nat
  lo : List Int
  ho : List Int
  a : Int
  s : Int
theorem endTwo {H L : Heap} {t tc n cc : Nat} {at_ seed : Int} (h : Cur H t tc n cc at_ seed) (lo ho : List Int) (a s : Int) (j0 j1 u0 u1 c0 c1 : Nat) (e0 : u0 = H.length + j0) (e1 : u1 = H.length + j1) (hn : jsOk [some j0, some j1] = true) (h0 : Heap.get L j0 = some ⟨lo.flatMap nmE, true, 3, 1⟩) (h1 : Heap.get L j1 = some ⟨ho.flatMap nmE, true, 3, 1⟩) (hl : lo.length ≤ 20) (hh : ho.length ≤ 20) (ha1 : at_ ≤ a) (ha2 : a ≤ at_ + 300) :
    EndR H (PTwo H t tc n cc at_) (.tuple #[.slice (some ⟨u0, 0, none⟩) lo.length c0, .slice (some ⟨u1, 0, none⟩) ho.length c1]) (H.set t (curB tc n cc a s) ++ L) := by
  have ht := h.lt
  subst e0 e1
  refine EndR.of (.tuple #[.slice (some ⟨H.length, 0, none⟩) lo.length lo.length, .slice (some ⟨H.length + 1, 0, none⟩) ho.length ho.length]) _ ⟨lo, ho, a, s, rfl, hl, hh, ha1, ha2, rfl⟩ (fin_sets [some j0, some j1] hn ht (h.wms _ _ _ _) ?_ (by simp -dsimp -implicitDefEqProofs (disch := omega) [go_sem, -List.getD_eq_getElem?_getD, ite_yes, sg] <;> omega))
  simp only [wkL, h0, h1]
  exact ⟨⟨trivial, trivial, id, .inl ⟨rfl, nmE_flat _⟩⟩, ⟨trivial, trivial, id, .inl ⟨rfl, nmE_flat _⟩⟩, trivial⟩
theorem nm_snoc (l : List Int) (x : Int) : (l ++ [x]).flatMap nmE = l.flatMap nmE ++ [.int .i64 x] := by simp [nmE]
theorem repairs_R {H : Heap} {t tc n cc : Nat} {at_ seed : Int} (h : Cur H t tc n cc at_ seed) (hA : at_ ≤ 100000000000000) :
    AFunR Try.prog 28 [.pointer (some ⟨t, 0, none⟩)] H (PTwo H t tc n cc at_) := by
  refine AFunR.of_body Try.func28 (by kernel_rfl) rfl (by kernel_rfl) (by simp [Try.ntmps28]) ?_
  have ht := h.lt
  have p0 := h.pos
  have si := fun (x : Option Blk) (L : Heap) (y : Option Blk) => set_into (H := H) (L := L) (x := x) ht (y := y)
  have s0 := fun (L : Heap) (y : Option Blk) => set_into0 (H := H) (L := L) ht (y := y)
  have hS0 := Heap.set_self h.blk
  simp -dsimp -implicitDefEqProofs (disch := omega) [go_sem, -List.getD_eq_getElem?_getD, ite_yes]
  refine ACall.via (pick_R (h.app _) (by omega) 6 (by omega)) ?_
  rintro _ _ ⟨r, rfl, r0, r1, a1, s1, q1, q1', rfl⟩
  obtain ⟨m, rfl⟩ : ∃ m : Nat, r = (m : Int) := ⟨r.toNat, by omega⟩
  simp -dsimp -implicitDefEqProofs (disch := omega) [go_sem, -List.getD_eq_getElem?_getD, ite_yes, s0]
  refine ALoop.intro (ι := TwI) (fun i => i.lo.length + i.k ≤ 6 ∧ i.ho.length + i.k ≤ 6 ∧ at_ ≤ i.a ∧ i.a + 4 * i.k ≤ at_ + 40) (fun i => [(0, .pointer (some ⟨t, 0, none⟩)), (4, .slice (some ⟨H.length, 0, none⟩) i.lo.length i.lo.length), (5, .slice (some ⟨H.length + 1, 0, none⟩) i.ho.length i.ho.length), (6, .int .i64 i.k)])
    (fun i => H.set t (curB tc n cc i.a i.s) ++ [some ⟨i.lo.flatMap nmE, true, 3, 1⟩, some ⟨i.ho.flatMap nmE, true, 3, 1⟩]) (fun i => i.k) ⟨m, [], [], a1, s1⟩ ⟨by simp only [List.length_nil]; omega, by simp only [List.length_nil]; omega, by simp only; omega, by simp only; omega⟩ ?_ ?_
  · refine weakS_sets [some 0, some 1] rfl ht (h.wms _ _ _ _) ?_ (by simp -dsimp -implicitDefEqProofs (disch := omega) [go_sem, -List.getD_eq_getElem?_getD, ite_yes, ht])
    simp -dsimp -implicitDefEqProofs (disch := omega) [go_sem, -List.getD_eq_getElem?_getD, ite_yes]
    exact .inl ⟨rfl, rfl⟩
  rintro ⟨k, lo, ho, a, s⟩ ⟨i1, i2, i3, i4⟩
  simp only at i1 i2 i3 i4
  have lf := nmE_length lo
  have hf := nmE_length ho
  by_cases hk : 0 < k
  · have hki : (0 : Int) < (k : Int) := by omega
    obtain ⟨k, rfl⟩ : ∃ j, k = j + 1 := ⟨k - 1, by omega⟩
    simp -dsimp -implicitDefEqProofs (disch := omega) [go_sem, -List.getD_eq_getElem?_getD, ite_yes, hki, hk]
    refine ACall.via (among_R ((h.step (by omega)).app _) (by omega) [0, 10, 20, 30, 1000000] (by simp) (by simp) _ _ (by omega) (Sl.nthS 2 rfl rfl)) ?_
    rintro _ _ ⟨x, rfl, xm, a2, s2, q2, q2', rfl⟩
    simp -dsimp -implicitDefEqProofs (disch := omega) [go_sem, -List.getD_eq_getElem?_getD, ite_yes, si, lf]
    refine ⟨by omega, ?_⟩
    refine ACall.via (among_R ((h.step (by omega)).app _) (by omega) [1, 2, 3, 100] (by simp) (by simp) _ _ (by omega) (Sl.nthS 5 rfl rfl)) ?_
    rintro _ _ ⟨y, rfl, ym, a3, s3, q3, q3', rfl⟩
    simp -dsimp -implicitDefEqProofs (disch := omega) [go_sem, -List.getD_eq_getElem?_getD, ite_yes, si, hf]
    refine ⟨by omega, ?_⟩
    have l1 : (lo ++ [x]).length = lo.length + 1 := by simp
    have l2 : (ho ++ [y]).length = ho.length + 1 := by simp
    refine LoopEnd.of ⟨k, lo ++ [x], ho ++ [y], a3, s3⟩ ⟨by simp only [l1]; omega, by simp only [l2]; omega, by simp only; omega, by simp only; omega⟩ (by simp only; omega) (weakS_sets [some 4, some 7] rfl ht (h.wms _ _ _ _) ?_ (by simp -dsimp -implicitDefEqProofs (disch := omega) [go_sem, -List.getD_eq_getElem?_getD, ite_yes, ht, l1, l2]))
    simp -dsimp -implicitDefEqProofs (disch := omega) [go_sem, -List.getD_eq_getElem?_getD, ite_yes]
    exact ⟨.inl ⟨by simp [nmE], by simp [nmE, flat]⟩, .inl ⟨by simp [nmE], by simp [nmE, flat]⟩⟩
  have hki : ¬ (0 : Int) < (k : Int) := by omega
  have l6 : lo.length ≤ 6 := by omega
  have h6 : ho.length ≤ 6 := by omega
  simp -dsimp -implicitDefEqProofs (disch := omega) [go_sem, -List.getD_eq_getElem?_getD, ite_yes, hki, hk]
  refine ACall.via (pick_R ((h.step (by omega)).app _) (by omega) 40 (by omega)) ?_
  rintro _ _ ⟨r, rfl, r0, r1, a4, s4, q4, q4', rfl⟩
  clear r1
  simp -dsimp -implicitDefEqProofs (disch := omega) [go_sem, -List.getD_eq_getElem?_getD, ite_yes, si]
  refine AIf.of (fun w0 => ?_) (fun w0 => ?_)
  · simp -dsimp -implicitDefEqProofs (disch := omega) [go_sem, -List.getD_eq_getElem?_getD, ite_yes, si, lf]
    refine ⟨by omega, ?_⟩
    have e3 : (lo ++ [(1 : Int)]).length = lo.length + 1 := by simp
    rw [← e3]
    exact endTwo h (lo ++ [1]) ho a4 s4 3 1 _ _ _ _ rfl rfl rfl (by simp [nmE, Heap.get_cons]) rfl (by omega) (by omega) (by omega) (by omega)
  simp -dsimp -implicitDefEqProofs (disch := omega) [go_sem, -List.getD_eq_getElem?_getD, ite_yes, si]
  refine AIf.of (fun w1 => ?_) (fun w1 => ?_)
  · simp -dsimp -implicitDefEqProofs (disch := omega) [go_sem, -List.getD_eq_getElem?_getD, ite_yes, si]
    refine ACall.via (among_R ((h.step (by omega)).app _) (by omega) [-1, 1000001] (by simp) (by simp) _ _ (by omega) (Sl.nthS 2 rfl rfl)) ?_
    rintro _ _ ⟨x, rfl, xm, a2, s2, q2, q2', rfl⟩
    simp -dsimp -implicitDefEqProofs (disch := omega) [go_sem, -List.getD_eq_getElem?_getD, ite_yes, si, lf, hf]
    refine ⟨by omega, ?_⟩
    try refine ⟨by omega, ?_⟩
    have e3 : (lo ++ [x]).length = lo.length + 1 := by simp
    have e4 : (ho ++ [(1 : Int)]).length = ho.length + 1 := by simp
    rw [← e3, ← e4]
    exact endTwo h (lo ++ [x]) (ho ++ [1]) a2 s2 4 6 _ _ _ _ rfl rfl rfl (by simp [nmE, Heap.get_cons]) (by simp [nmE, Heap.get_cons]) (by omega) (by omega) (by omega) (by omega)
  simp -dsimp -implicitDefEqProofs (disch := omega) [go_sem, -List.getD_eq_getElem?_getD, ite_yes, si]
  refine AIf.of (fun w2 => ?_) (fun w2 => ?_)
  · simp -dsimp -implicitDefEqProofs (disch := omega) [go_sem, -List.getD_eq_getElem?_getD, ite_yes, si, lf]
    refine ⟨by omega, ?_⟩
    refine ACall.via (among_R ((h.step (by omega)).app _) (by omega) [0, 101] (by simp) (by simp) _ _ (by omega) (Sl.nthS 4 rfl rfl)) ?_
    rintro _ _ ⟨x, rfl, xm, a2, s2, q2, q2', rfl⟩
    simp -dsimp -implicitDefEqProofs (disch := omega) [go_sem, -List.getD_eq_getElem?_getD, ite_yes, si, lf, hf]
    refine ⟨by omega, ?_⟩
    have e3 : (lo ++ [(1 : Int)]).length = lo.length + 1 := by simp
    have e4 : (ho ++ [x]).length = ho.length + 1 := by simp
    rw [← e3, ← e4]
    exact endTwo h (lo ++ [1]) (ho ++ [x]) a2 s2 3 6 _ _ _ _ rfl rfl rfl (by simp [nmE, Heap.get_cons]) (by simp [nmE, Heap.get_cons]) (by omega) (by omega) (by omega) (by omega)
  simp -dsimp -implicitDefEqProofs (disch := omega) [go_sem, -List.getD_eq_getElem?_getD, ite_yes, si]
  refine AIf.of (fun w3 => ?_) (fun w3 => ?_)
  rotate_left
  · simp -dsimp -implicitDefEqProofs (disch := omega) [go_sem, -List.getD_eq_getElem?_getD, ite_yes, si]
    exact endTwo h lo ho a4 s4 0 1 _ _ _ _ rfl rfl rfl rfl rfl (by omega) (by omega) (by omega) (by omega)
  simp -dsimp -implicitDefEqProofs (disch := omega) [go_sem, -List.getD_eq_getElem?_getD, ite_yes, si]
  refine ALoop.intro (ι := TwI) (fun i => i.lo.length ≤ 12 ∧ i.ho.length ≤ i.lo.length + 6 ∧ at_ ≤ i.a ∧ i.a ≤ at_ + 60 + 2 * i.lo.length) (fun i => [(0, .pointer (some ⟨t, 0, none⟩)), (4, .slice (some ⟨H.length, 0, none⟩) i.lo.length i.lo.length), (5, .slice (some ⟨H.length + 1, 0, none⟩) i.ho.length i.ho.length)])
    (fun i => H.set t (curB tc n cc i.a i.s) ++ [some ⟨i.lo.flatMap nmE, true, 3, 1⟩, some ⟨i.ho.flatMap nmE, true, 3, 1⟩]) (fun i => 12 - i.lo.length) ⟨0, lo, ho, a4, s4⟩ ⟨by simp only; omega, by simp only; omega, by simp only; omega, by simp only; omega⟩ ?_ ?_
  · refine weakS_sets [some 0, some 1] rfl ht (h.wms _ _ _ _) ?_ (by simp -dsimp -implicitDefEqProofs (disch := omega) [go_sem, -List.getD_eq_getElem?_getD, ite_yes, ht])
    simp -dsimp -implicitDefEqProofs (disch := omega) [go_sem, -List.getD_eq_getElem?_getD, ite_yes]
    exact ⟨.inl ⟨rfl, nmE_flat _⟩, .inl ⟨rfl, nmE_flat _⟩⟩
  clear i1 i2 i3 i4 l6 h6 lf hf q4 q4'
  rintro ⟨_, lo, ho, a, s⟩ ⟨i1, i2, i3, i4⟩
  simp only at i1 i2 i3 i4
  have lf := nmE_length lo
  have hf := nmE_length ho
  simp -dsimp -implicitDefEqProofs (disch := omega) [go_sem, -List.getD_eq_getElem?_getD, ite_yes]
  refine ACall.via (pick_R ((h.step (by omega)).app _) (by omega) 2 (by omega)) ?_
  rintro _ _ ⟨p, rfl, p1, p2, a5, s5, q5, q5', rfl⟩
  by_cases hlt : (lo.length : Int) < 10 + p
  rotate_left
  · simp -dsimp -implicitDefEqProofs (disch := omega) [go_sem, -List.getD_eq_getElem?_getD, ite_yes, si, hlt]
    exact endTwo h lo ho a5 s5 0 1 _ _ _ _ rfl rfl rfl rfl rfl (by omega) (by omega) (by omega) (by omega)
  simp -dsimp -implicitDefEqProofs (disch := omega) [go_sem, -List.getD_eq_getElem?_getD, ite_yes, si, hlt, lf, hf]
  refine ⟨by omega, ?_⟩
  try refine ⟨by omega, ?_⟩
  have l1 : (lo ++ [(5 : Int)]).length = lo.length + 1 := by simp
  have l2 : (ho ++ [(5 : Int)]).length = ho.length + 1 := by simp
  refine LoopEnd.of ⟨0, lo ++ [5], ho ++ [5], a5, s5⟩ ⟨by simp only [l1]; omega, by simp only [l1, l2]; omega, by simp only; omega, by simp only [l1]; omega⟩ (by simp only [l1]; omega) (weakS_sets [some 3, some 5] rfl ht (h.wms _ _ _ _) ?_ (by simp -dsimp -implicitDefEqProofs (disch := omega) [go_sem, -List.getD_eq_getElem?_getD, ite_yes, ht, l1, l2]))
  simp -dsimp -implicitDefEqProofs (disch := omega) [go_sem, -List.getD_eq_getElem?_getD, ite_yes]
  exact ⟨.inl ⟨by simp [nmE], by simp [nmE, flat]⟩, .inl ⟨by simp [nmE], by simp [nmE, flat]⟩⟩
end Go.Proofs.Yteojpgmclplggaa
/- Areas that are drawn. -/
namespace Go.Proofs.Yteojpgmclplggaa
open Go.Am
set_option linter.unusedVariables false
set_option linter.unusedSimpArgs false
set_option maxRecDepth 100000
set_option maxHeartbeats 8000000
def PArea (H : Heap) (t tc n cc : Nat) (at_ : Int) (v : Value) (H' : Heap) : Prop :=
  ∃ (id ho : Int) (L : List Int) (a s : Int), v = areaV id ho H.length L.length L.length ∧ L.length ≤ 20 ∧ at_ ≤ a ∧ a ≤ at_ + 300 ∧ H' = H.set t (curB tc n cc a s) ++ [some ⟨L.flatMap nmE, true, 3, 1⟩]
theorem wl_ar {m j u : Nat} {js : List (Option Nat)} {x y : Int} {len c d i : Nat} (hu : u < j) (hs : sg m js (m + u) = some (m + i)) : WL (sg m js) (m + j) [.int .i64 x, .int .i64 y, .slice (some ⟨m + u, 0, none⟩) len c] [.int .i64 x, .int .i64 y, .slice (some ⟨m + i, 0, none⟩) len d] :=
  .inr ⟨rfl, rfl, ⟨show m + u < m + j by omega, .inl ⟨m + i, d, hs, rfl⟩⟩, trivial⟩
theorem wl_ar0 {m j u : Nat} {js : List (Option Nat)} {x y : Int} {c : Nat} (hu : u < j) (hs : sg m js (m + u) = none) : WL (sg m js) (m + j) [.int .i64 x, .int .i64 y, .slice (some ⟨m + u, 0, none⟩) 0 c] [.int .i64 x, .int .i64 y, .slice none 0 0] :=
  .inr ⟨rfl, rfl, ⟨show m + u < m + j by omega, .inr ⟨hs, rfl, rfl, rfl⟩⟩, trivial⟩
theorem endArea {H L : Heap} {t tc n cc : Nat} {at_ seed : Int} (h : Cur H t tc n cc at_ seed) (id ho : Int) (N : List Int) (a s : Int) (j u c : Nat) (e : u = H.length + j) (h0 : Heap.get L j = some ⟨N.flatMap nmE, true, 3, 1⟩) (hl : N.length ≤ 20) (h1 : at_ ≤ a) (h2 : a ≤ at_ + 300) :
    EndR H (PArea H t tc n cc at_) (areaV id ho u N.length c) (H.set t (curB tc n cc a s) ++ L) := by
  have ht := h.lt
  subst e
  refine EndR.of (areaV id ho H.length N.length N.length) _ ⟨id, ho, N, a, s, rfl, hl, h1, h2, rfl⟩ (fin_sets [some j] rfl ht (h.wms _ _ _ _) ?_ (by simp -dsimp -implicitDefEqProofs (disch := omega) [go_sem, -List.getD_eq_getElem?_getD, ite_yes, sg] <;> omega))
  simp only [wkL, h0]
  exact ⟨⟨trivial, trivial, fun h => h, .inl ⟨rfl, nmE_flat _⟩⟩, trivial⟩
theorem nmD_set (s : List Int) (x : Int) {q : Nat} (hq : q < s.length) : (s.flatMap nmE).set q (.int .i64 x) = (s.set q x).flatMap nmE := by
  have := set_cell (f := nmE) (s := 1) (fun _ => rfl) x 0 hq (j := 0) (by omega) (v := .int .i64 x) rfl
  rwa [Nat.mul_one, Nat.add_zero] at this
structure ArI where
  k : Nat
  L : List Int
  f : Int
  a : Int
  s : Int
theorem area_R {H : Heap} {t tc n cc : Nat} {at_ seed : Int} (h : Cur H t tc n cc at_ seed) (hA : at_ ≤ 100000000000000) (id : Int) :
    AFunR Try.prog 21 [.pointer (some ⟨t, 0, none⟩), .int .i64 id] H (PArea H t tc n cc at_) := by
  refine AFunR.of_body Try.func21 (by kernel_rfl) rfl (by kernel_rfl) (by simp [Try.ntmps21]) ?_
  have ht := h.lt
  have p0 := h.pos
  have si := fun (x : Option Blk) (L : Heap) (y : Option Blk) => set_into (H := H) (L := L) (x := x) ht (y := y)
  have s0 := fun (L : Heap) (y : Option Blk) => set_into0 (H := H) (L := L) ht (y := y)
  simp -dsimp -implicitDefEqProofs (disch := omega) [go_sem, -List.getD_eq_getElem?_getD, ite_yes]
  refine ACall.via (among_R (h.app _) (by omega) [1, 10, 100, 10000] (by simp) (by simp) _ _ (by omega) (Sl.nth 1 rfl rfl)) ?_
  rintro _ _ ⟨ho, rfl, hm, a1, s1, q1, q1', rfl⟩
  simp -dsimp -implicitDefEqProofs (disch := omega) [go_sem, -List.getD_eq_getElem?_getD, ite_yes, s0]
  refine ACall.via (among_R ((h.step (by omega)).app _) (by omega) [0, 15, 220, 30000] (by simp) (by simp) _ _ (by omega) (Sl.nthS 3 rfl rfl)) ?_
  rintro _ _ ⟨f0, rfl, fm, a2, s2, q2, q2', rfl⟩
  have f09 : 0 ≤ f0 ∧ f0 ≤ 30000 := by simp at fm; omega
  simp -dsimp -implicitDefEqProofs (disch := omega) [go_sem, -List.getD_eq_getElem?_getD, ite_yes, si]
  refine ACall.via (pick_R ((h.step (by omega)).app _) (by omega) 6 (by omega)) ?_
  rintro _ _ ⟨r, rfl, r0, r1, a3, s3, q3, q3', rfl⟩
  obtain ⟨m, rfl⟩ : ∃ m : Nat, r = (m : Int) := ⟨r.toNat, by omega⟩
  simp -dsimp -implicitDefEqProofs (disch := omega) [go_sem, -List.getD_eq_getElem?_getD, ite_yes, si]
  refine ALoop.intro (ι := ArI) (fun i => i.L.length + i.k = m + 1 ∧ 0 ≤ i.f ∧ i.f ≤ 30000 + 100 * i.L.length ∧ at_ ≤ i.a ∧ i.a + 4 * i.k ≤ at_ + 60) (fun i => [(0, .pointer (some ⟨t, 0, none⟩)), (4, .pointer (some ⟨H.length, 0, none⟩)), (5, .pointer (some ⟨H.length + 1, 0, none⟩)), (6, .int .i64 i.f), (7, .int .i64 i.k)])
    (fun i => H.set t (curB tc n cc i.a i.s) ++ [some ⟨[.int .i64 0, .int .i64 0, .slice none 0 0], true, 26, 1⟩, some ⟨[.int .i64 id, .int .i64 ho, .slice (some ⟨H.length + 2, 0, none⟩) i.L.length i.L.length], true, 26, 1⟩, some ⟨i.L.flatMap nmE, true, 3, 1⟩]) (fun i => i.k) ⟨m + 1, [], f0, a3, s3⟩ ⟨by simp, by simp only; omega, by simp only [List.length_nil]; omega, by simp only; omega, by simp only; omega⟩ ?_ ?_
  · refine weakS_sets [some 0, some 2, none] rfl ht (h.wms _ _ _ _) ?_ (by simp -dsimp -implicitDefEqProofs (disch := omega) [go_sem, -List.getD_eq_getElem?_getD, ite_yes, ht] <;> omega)
    simp -dsimp -implicitDefEqProofs (disch := omega) [go_sem, -List.getD_eq_getElem?_getD, ite_yes]
    exact ⟨.inl ⟨rfl, rfl⟩, wl_ar0 (u := 2) (by omega) (by simp [sg])⟩
  rintro ⟨k, L, f, a, s⟩ ⟨i1, i2, i3, i4, i5⟩
  simp only at i1 i2 i3 i4 i5
  have lf := nmE_length L
  by_cases hk : 0 < k
  · have hki : (0 : Int) < (k : Int) := by omega
    obtain ⟨k, rfl⟩ : ∃ j, k = j + 1 := ⟨k - 1, by omega⟩
    simp -dsimp -implicitDefEqProofs (disch := omega) [go_sem, -List.getD_eq_getElem?_getD, ite_yes, hki, hk, lf]
    refine ⟨by omega, ?_⟩
    refine ACall.via (among_R ((h.step (by omega)).app _) (by omega) [0, 0, 5, -5, 100, -40] (by simp) (by simp) _ _ (by omega) (Sl.nthS 5 rfl rfl)) ?_
    rintro _ _ ⟨x, rfl, xm, a4, s4, q4, q4', rfl⟩
    have x09 : -40 ≤ x ∧ x ≤ 100 := by simp at xm; omega
    simp -dsimp -implicitDefEqProofs (disch := omega) [go_sem, -List.getD_eq_getElem?_getD, ite_yes, si]
    refine ACall.of (l1Most_A _ _ _) ?_
    simp -dsimp -implicitDefEqProofs (disch := omega) [go_sem, -List.getD_eq_getElem?_getD, ite_yes]
    have l1 : (L ++ [f]).length = L.length + 1 := by simp
    refine LoopEnd.of ⟨k, L ++ [f], max 0 (f + x), a4, s4⟩ ⟨by simp only [l1]; omega, by simp only; omega, by simp only [l1]; omega, by simp only; omega, by simp only; omega⟩ (by simp only; omega) (weakS_sets [some 0, some 1, some 4] rfl ht (h.wms _ _ _ _) ?_ (by simp -dsimp -implicitDefEqProofs (disch := omega) [go_sem, -List.getD_eq_getElem?_getD, ite_yes, ht, l1]))
    simp -dsimp -implicitDefEqProofs (disch := omega) [go_sem, -List.getD_eq_getElem?_getD, ite_yes, l1]
    exact ⟨.inl ⟨rfl, rfl⟩, wl_ar (u := 2) (i := 4) (by omega) (by simp [sg]), .inl ⟨by simp [nmE], by simp [nmE, flat]⟩⟩
  have hki : ¬ (0 : Int) < (k : Int) := by omega
  have hl1 : 1 ≤ L.length := by omega
  have hl7 : L.length ≤ 7 := by omega
  simp -dsimp -implicitDefEqProofs (disch := omega) [go_sem, -List.getD_eq_getElem?_getD, ite_yes, hki, hk]
  refine ACall.via (pick_R ((h.step (by omega)).app _) (by omega) 40 (by omega)) ?_
  rintro _ _ ⟨r, rfl, r0, r9, a4, s4, q4, q4', rfl⟩
  clear r9
  simp -dsimp -implicitDefEqProofs (disch := omega) [go_sem, -List.getD_eq_getElem?_getD, ite_yes, si]
  refine AIf.of (fun w0 => ?_) (fun w0 => ?_)
  · simp -dsimp -implicitDefEqProofs (disch := omega) [go_sem, -List.getD_eq_getElem?_getD, ite_yes, si]
    refine ACall.via (among_R ((h.step (by omega)).app _) (by omega) [0, 99, 100] (by simp) (by simp) _ _ (by omega) (Sl.nthS 3 rfl rfl)) ?_
    rintro _ _ ⟨x, rfl, xm, a5, s5, q5, q5', rfl⟩
    simp -dsimp -implicitDefEqProofs (disch := omega) [go_sem, -List.getD_eq_getElem?_getD, ite_yes, si]
    exact endArea h x ho L a5 s5 2 _ _ rfl rfl (by omega) (by omega) (by omega)
  simp -dsimp -implicitDefEqProofs (disch := omega) [go_sem, -List.getD_eq_getElem?_getD, ite_yes, si]
  refine AIf.of (fun w1 => ?_) (fun w1 => ?_)
  · simp -dsimp -implicitDefEqProofs (disch := omega) [go_sem, -List.getD_eq_getElem?_getD, ite_yes, si]
    refine ACall.via (among_R ((h.step (by omega)).app _) (by omega) [0, 10001] (by simp) (by simp) _ _ (by omega) (Sl.nthS 3 rfl rfl)) ?_
    rintro _ _ ⟨x, rfl, xm, a5, s5, q5, q5', rfl⟩
    simp -dsimp -implicitDefEqProofs (disch := omega) [go_sem, -List.getD_eq_getElem?_getD, ite_yes, si]
    exact endArea h id x L a5 s5 2 _ _ rfl rfl (by omega) (by omega) (by omega)
  simp -dsimp -implicitDefEqProofs (disch := omega) [go_sem, -List.getD_eq_getElem?_getD, ite_yes, si]
  refine AIf.of (fun w2 => ?_) (fun w2 => ?_)
  · simp -dsimp -implicitDefEqProofs (disch := omega) [go_sem, -List.getD_eq_getElem?_getD, ite_yes, si]
    refine ADraw.any [] (by kernel_rfl) (SubH.nil) ?_
    refine AAny.takes (fuel := 8) (by kernel_rfl) (by kernel_rfl) [0, 2, 3, 7] (by kernel_rfl) (by kernel_rfl) ?_
    simp -dsimp -implicitDefEqProofs (disch := omega) [go_sem, -List.getD_eq_getElem?_getD, ite_yes, si, ht, lf]
    refine AAny.three 7 1 4 8 (by kernel_rfl) (by kernel_rfl) (by kernel_rfl) ?_ ?_ ?_
    · simp -dsimp -implicitDefEqProofs (disch := omega) [go_sem, -List.getD_eq_getElem?_getD, ite_yes, si, ht, lf]
      first | refine AAt.of (SubH.nil) ?_ | (refine ⟨?_, AAt.of (SubH.nil) ?_⟩; · omega)
      refine AAny.two 6 4 8 (by kernel_rfl) (by kernel_rfl) (by kernel_rfl) ?_ ?_
      · simp -dsimp -implicitDefEqProofs (disch := omega) [go_sem, -List.getD_eq_getElem?_getD, ite_yes, si, ht, lf]
        first | refine AAt.of (SubH.nil) ?_ | (refine ⟨?_, AAt.of (SubH.nil) ?_⟩; · omega)
        refine AAny.takes (fuel := 5) (by kernel_rfl) (by kernel_rfl) [5] (by kernel_rfl) (by kernel_rfl) ?_
        simp -dsimp -implicitDefEqProofs (disch := omega) [go_sem, -List.getD_eq_getElem?_getD, ite_yes, si, ht, lf]
        refine AAny.two 4 6 8 (by kernel_rfl) (by kernel_rfl) (by kernel_rfl) ?_ ?_
        · simp -dsimp -implicitDefEqProofs (disch := omega) [go_sem, -List.getD_eq_getElem?_getD, ite_yes, si, ht, lf]
          refine ACall.via (pick_R ((h.step (by omega)).app _) (by omega) L.length (by omega)) ?_
          rintro _ _ ⟨p, rfl, p1, p2, a6, s6, q6, q6', rfl⟩
          obtain ⟨z, rfl⟩ : ∃ z : Nat, p = (z : Int) := ⟨p.toNat, by omega⟩
          have hz : z < L.length := by omega
          have hzi : (z : Int) < (L.length : Int) := by omega
          simp -dsimp -implicitDefEqProofs (disch := omega) [go_sem, -List.getD_eq_getElem?_getD, ite_yes, si, ht, lf, hz, hzi]
          first | refine AAt.of (SubH.nil) ?_ | (refine ⟨?_, AAt.of (SubH.nil) ?_⟩; · omega)
          refine AAny.one 3 8 (by kernel_rfl) (by kernel_rfl) (by kernel_rfl) ?_
          simp -dsimp -implicitDefEqProofs (disch := omega) [go_sem, -List.getD_eq_getElem?_getD, ite_yes, si, ht, lf, hz, hzi]
          first | refine AAt.of (SubH.nil) ?_ | (refine ⟨?_, AAt.of (SubH.nil) ?_⟩; · omega)
          refine AAny.one 2 9 (by kernel_rfl) (by kernel_rfl) (by kernel_rfl) ?_
          simp -dsimp -implicitDefEqProofs (disch := omega) [go_sem, -List.getD_eq_getElem?_getD, ite_yes, si, ht, lf, hz, hzi]
          refine ACall.via (among_R ((h.step (by omega)).app _) (by omega) [-1, 1000000, 1000001] (by simp) (by simp) _ _ (by omega) (Sl.nthS 3 rfl rfl)) ?_
          rintro _ _ ⟨x, rfl, xm, a5, s5, q5, q5', rfl⟩
          have nz := nmD_set L x hz
          have ll : (L.set z x).length = L.length := by simp
          simp -dsimp -implicitDefEqProofs (disch := omega) [go_sem, -List.getD_eq_getElem?_getD, ite_yes, si, ht, lf, hz, hzi, nz]
          first | refine AAt.of (SubH.nil) ?_ | (refine ⟨?_, AAt.of (SubH.nil) ?_⟩; · omega)
          refine AAny.takes (fuel := 1) (by kernel_rfl) (by kernel_rfl) [10] (by kernel_rfl) (by kernel_rfl) ?_
          simp -dsimp -implicitDefEqProofs (disch := omega) [go_sem, -List.getD_eq_getElem?_getD, ite_yes, si, ht, lf, hz, hzi, nz]
          refine AAny.one 0 11 (by kernel_rfl) (by kernel_rfl) (by kernel_rfl) ?_
          simp -dsimp -implicitDefEqProofs (disch := omega) [go_sem, -List.getD_eq_getElem?_getD, ite_yes, si, ht, lf, hz, hzi, nz]
          first | refine AAt.of (SubH.nil) ?_ | (refine ⟨?_, AAt.of (SubH.nil) ?_⟩; · omega)
          refine AAny.done (by kernel_rfl) ?_
          simp -dsimp -implicitDefEqProofs (disch := omega) [go_sem, -List.getD_eq_getElem?_getD, ite_yes, si, ht, lf, hz, hzi, nz]
          exact ll ▸ endArea h id ho (L.set z x) a5 s5 2 _ _ rfl rfl (by omega) (by omega) (by omega)
        · simp -dsimp -implicitDefEqProofs (disch := omega) [go_sem, -List.getD_eq_getElem?_getD, ite_yes, si, ht, lf]
          first | refine AAt.of (SubH.nil) ?_ | (refine ⟨?_, AAt.of (SubH.nil) ?_⟩; · omega)
          refine AAny.one 3 6 (by kernel_rfl) (by kernel_rfl) (by kernel_rfl) ?_
          simp -dsimp -implicitDefEqProofs (disch := omega) [go_sem, -List.getD_eq_getElem?_getD, ite_yes, si, ht, lf]
          refine ACall.via (pick_R ((h.step (by omega)).app _) (by omega) L.length (by omega)) ?_
          rintro _ _ ⟨p, rfl, p1, p2, a6, s6, q6, q6', rfl⟩
          obtain ⟨z, rfl⟩ : ∃ z : Nat, p = (z : Int) := ⟨p.toNat, by omega⟩
          have hz : z < L.length := by omega
          have hzi : (z : Int) < (L.length : Int) := by omega
          simp -dsimp -implicitDefEqProofs (disch := omega) [go_sem, -List.getD_eq_getElem?_getD, ite_yes, si, ht, lf, hz, hzi]
          first | refine AAt.of (SubH.nil) ?_ | (refine ⟨?_, AAt.of (SubH.nil) ?_⟩; · omega)
          refine AAny.one 2 9 (by kernel_rfl) (by kernel_rfl) (by kernel_rfl) ?_
          simp -dsimp -implicitDefEqProofs (disch := omega) [go_sem, -List.getD_eq_getElem?_getD, ite_yes, si, ht, lf, hz, hzi]
          refine ACall.via (among_R ((h.step (by omega)).app _) (by omega) [-1, 1000000, 1000001] (by simp) (by simp) _ _ (by omega) (Sl.nthS 3 rfl rfl)) ?_
          rintro _ _ ⟨x, rfl, xm, a5, s5, q5, q5', rfl⟩
          have nz := nmD_set L x hz
          have ll : (L.set z x).length = L.length := by simp
          simp -dsimp -implicitDefEqProofs (disch := omega) [go_sem, -List.getD_eq_getElem?_getD, ite_yes, si, ht, lf, hz, hzi, nz]
          first | refine AAt.of (SubH.nil) ?_ | (refine ⟨?_, AAt.of (SubH.nil) ?_⟩; · omega)
          refine AAny.takes (fuel := 1) (by kernel_rfl) (by kernel_rfl) [10] (by kernel_rfl) (by kernel_rfl) ?_
          simp -dsimp -implicitDefEqProofs (disch := omega) [go_sem, -List.getD_eq_getElem?_getD, ite_yes, si, ht, lf, hz, hzi, nz]
          refine AAny.one 0 11 (by kernel_rfl) (by kernel_rfl) (by kernel_rfl) ?_
          simp -dsimp -implicitDefEqProofs (disch := omega) [go_sem, -List.getD_eq_getElem?_getD, ite_yes, si, ht, lf, hz, hzi, nz]
          first | refine AAt.of (SubH.nil) ?_ | (refine ⟨?_, AAt.of (SubH.nil) ?_⟩; · omega)
          refine AAny.done (by kernel_rfl) ?_
          simp -dsimp -implicitDefEqProofs (disch := omega) [go_sem, -List.getD_eq_getElem?_getD, ite_yes, si, ht, lf, hz, hzi, nz]
          exact ll ▸ endArea h id ho (L.set z x) a5 s5 2 _ _ rfl rfl (by omega) (by omega) (by omega)
      · simp -dsimp -implicitDefEqProofs (disch := omega) [go_sem, -List.getD_eq_getElem?_getD, ite_yes, si, ht, lf]
        first | refine AAt.of (SubH.nil) ?_ | (refine ⟨?_, AAt.of (SubH.nil) ?_⟩; · omega)
        refine AAny.one 5 4 (by kernel_rfl) (by kernel_rfl) (by kernel_rfl) ?_
        simp -dsimp -implicitDefEqProofs (disch := omega) [go_sem, -List.getD_eq_getElem?_getD, ite_yes, si, ht, lf]
        first | refine AAt.of (SubH.nil) ?_ | (refine ⟨?_, AAt.of (SubH.nil) ?_⟩; · omega)
        refine AAny.takes (fuel := 4) (by kernel_rfl) (by kernel_rfl) [5] (by kernel_rfl) (by kernel_rfl) ?_
        simp -dsimp -implicitDefEqProofs (disch := omega) [go_sem, -List.getD_eq_getElem?_getD, ite_yes, si, ht, lf]
        refine AAny.one 3 6 (by kernel_rfl) (by kernel_rfl) (by kernel_rfl) ?_
        simp -dsimp -implicitDefEqProofs (disch := omega) [go_sem, -List.getD_eq_getElem?_getD, ite_yes, si, ht, lf]
        refine ACall.via (pick_R ((h.step (by omega)).app _) (by omega) L.length (by omega)) ?_
        rintro _ _ ⟨p, rfl, p1, p2, a6, s6, q6, q6', rfl⟩
        obtain ⟨z, rfl⟩ : ∃ z : Nat, p = (z : Int) := ⟨p.toNat, by omega⟩
        have hz : z < L.length := by omega
        have hzi : (z : Int) < (L.length : Int) := by omega
        simp -dsimp -implicitDefEqProofs (disch := omega) [go_sem, -List.getD_eq_getElem?_getD, ite_yes, si, ht, lf, hz, hzi]
        first | refine AAt.of (SubH.nil) ?_ | (refine ⟨?_, AAt.of (SubH.nil) ?_⟩; · omega)
        refine AAny.one 2 9 (by kernel_rfl) (by kernel_rfl) (by kernel_rfl) ?_
        simp -dsimp -implicitDefEqProofs (disch := omega) [go_sem, -List.getD_eq_getElem?_getD, ite_yes, si, ht, lf, hz, hzi]
        refine ACall.via (among_R ((h.step (by omega)).app _) (by omega) [-1, 1000000, 1000001] (by simp) (by simp) _ _ (by omega) (Sl.nthS 3 rfl rfl)) ?_
        rintro _ _ ⟨x, rfl, xm, a5, s5, q5, q5', rfl⟩
        have nz := nmD_set L x hz
        have ll : (L.set z x).length = L.length := by simp
        simp -dsimp -implicitDefEqProofs (disch := omega) [go_sem, -List.getD_eq_getElem?_getD, ite_yes, si, ht, lf, hz, hzi, nz]
        first | refine AAt.of (SubH.nil) ?_ | (refine ⟨?_, AAt.of (SubH.nil) ?_⟩; · omega)
        refine AAny.takes (fuel := 1) (by kernel_rfl) (by kernel_rfl) [10] (by kernel_rfl) (by kernel_rfl) ?_
        simp -dsimp -implicitDefEqProofs (disch := omega) [go_sem, -List.getD_eq_getElem?_getD, ite_yes, si, ht, lf, hz, hzi, nz]
        refine AAny.one 0 11 (by kernel_rfl) (by kernel_rfl) (by kernel_rfl) ?_
        simp -dsimp -implicitDefEqProofs (disch := omega) [go_sem, -List.getD_eq_getElem?_getD, ite_yes, si, ht, lf, hz, hzi, nz]
        first | refine AAt.of (SubH.nil) ?_ | (refine ⟨?_, AAt.of (SubH.nil) ?_⟩; · omega)
        refine AAny.done (by kernel_rfl) ?_
        simp -dsimp -implicitDefEqProofs (disch := omega) [go_sem, -List.getD_eq_getElem?_getD, ite_yes, si, ht, lf, hz, hzi, nz]
        exact ll ▸ endArea h id ho (L.set z x) a5 s5 2 _ _ rfl rfl (by omega) (by omega) (by omega)
    · simp -dsimp -implicitDefEqProofs (disch := omega) [go_sem, -List.getD_eq_getElem?_getD, ite_yes, si, ht, lf]
      first | refine AAt.of (SubH.nil) ?_ | (refine ⟨?_, AAt.of (SubH.nil) ?_⟩; · omega)
      refine AAny.takes (fuel := 6) (by kernel_rfl) (by kernel_rfl) [5] (by kernel_rfl) (by kernel_rfl) ?_
      simp -dsimp -implicitDefEqProofs (disch := omega) [go_sem, -List.getD_eq_getElem?_getD, ite_yes, si, ht, lf]
      refine AAny.three 5 1 6 8 (by kernel_rfl) (by kernel_rfl) (by kernel_rfl) ?_ ?_ ?_
      · simp -dsimp -implicitDefEqProofs (disch := omega) [go_sem, -List.getD_eq_getElem?_getD, ite_yes, si, ht, lf]
        first | refine AAt.of (SubH.nil) ?_ | (refine ⟨?_, AAt.of (SubH.nil) ?_⟩; · omega)
        refine AAny.two 4 6 8 (by kernel_rfl) (by kernel_rfl) (by kernel_rfl) ?_ ?_
        · simp -dsimp -implicitDefEqProofs (disch := omega) [go_sem, -List.getD_eq_getElem?_getD, ite_yes, si, ht, lf]
          refine ACall.via (pick_R ((h.step (by omega)).app _) (by omega) L.length (by omega)) ?_
          rintro _ _ ⟨p, rfl, p1, p2, a6, s6, q6, q6', rfl⟩
          obtain ⟨z, rfl⟩ : ∃ z : Nat, p = (z : Int) := ⟨p.toNat, by omega⟩
          have hz : z < L.length := by omega
          have hzi : (z : Int) < (L.length : Int) := by omega
          simp -dsimp -implicitDefEqProofs (disch := omega) [go_sem, -List.getD_eq_getElem?_getD, ite_yes, si, ht, lf, hz, hzi]
          first | refine AAt.of (SubH.nil) ?_ | (refine ⟨?_, AAt.of (SubH.nil) ?_⟩; · omega)
          refine AAny.one 3 8 (by kernel_rfl) (by kernel_rfl) (by kernel_rfl) ?_
          simp -dsimp -implicitDefEqProofs (disch := omega) [go_sem, -List.getD_eq_getElem?_getD, ite_yes, si, ht, lf, hz, hzi]
          first | refine AAt.of (SubH.nil) ?_ | (refine ⟨?_, AAt.of (SubH.nil) ?_⟩; · omega)
          refine AAny.one 2 9 (by kernel_rfl) (by kernel_rfl) (by kernel_rfl) ?_
          simp -dsimp -implicitDefEqProofs (disch := omega) [go_sem, -List.getD_eq_getElem?_getD, ite_yes, si, ht, lf, hz, hzi]
          refine ACall.via (among_R ((h.step (by omega)).app _) (by omega) [-1, 1000000, 1000001] (by simp) (by simp) _ _ (by omega) (Sl.nthS 3 rfl rfl)) ?_
          rintro _ _ ⟨x, rfl, xm, a5, s5, q5, q5', rfl⟩
          have nz := nmD_set L x hz
          have ll : (L.set z x).length = L.length := by simp
          simp -dsimp -implicitDefEqProofs (disch := omega) [go_sem, -List.getD_eq_getElem?_getD, ite_yes, si, ht, lf, hz, hzi, nz]
          first | refine AAt.of (SubH.nil) ?_ | (refine ⟨?_, AAt.of (SubH.nil) ?_⟩; · omega)
          refine AAny.takes (fuel := 1) (by kernel_rfl) (by kernel_rfl) [10] (by kernel_rfl) (by kernel_rfl) ?_
          simp -dsimp -implicitDefEqProofs (disch := omega) [go_sem, -List.getD_eq_getElem?_getD, ite_yes, si, ht, lf, hz, hzi, nz]
          refine AAny.one 0 11 (by kernel_rfl) (by kernel_rfl) (by kernel_rfl) ?_
          simp -dsimp -implicitDefEqProofs (disch := omega) [go_sem, -List.getD_eq_getElem?_getD, ite_yes, si, ht, lf, hz, hzi, nz]
          first | refine AAt.of (SubH.nil) ?_ | (refine ⟨?_, AAt.of (SubH.nil) ?_⟩; · omega)
          refine AAny.done (by kernel_rfl) ?_
          simp -dsimp -implicitDefEqProofs (disch := omega) [go_sem, -List.getD_eq_getElem?_getD, ite_yes, si, ht, lf, hz, hzi, nz]
          exact ll ▸ endArea h id ho (L.set z x) a5 s5 2 _ _ rfl rfl (by omega) (by omega) (by omega)
        · simp -dsimp -implicitDefEqProofs (disch := omega) [go_sem, -List.getD_eq_getElem?_getD, ite_yes, si, ht, lf]
          first | refine AAt.of (SubH.nil) ?_ | (refine ⟨?_, AAt.of (SubH.nil) ?_⟩; · omega)
          refine AAny.one 3 6 (by kernel_rfl) (by kernel_rfl) (by kernel_rfl) ?_
          simp -dsimp -implicitDefEqProofs (disch := omega) [go_sem, -List.getD_eq_getElem?_getD, ite_yes, si, ht, lf]
          refine ACall.via (pick_R ((h.step (by omega)).app _) (by omega) L.length (by omega)) ?_
          rintro _ _ ⟨p, rfl, p1, p2, a6, s6, q6, q6', rfl⟩
          obtain ⟨z, rfl⟩ : ∃ z : Nat, p = (z : Int) := ⟨p.toNat, by omega⟩
          have hz : z < L.length := by omega
          have hzi : (z : Int) < (L.length : Int) := by omega
          simp -dsimp -implicitDefEqProofs (disch := omega) [go_sem, -List.getD_eq_getElem?_getD, ite_yes, si, ht, lf, hz, hzi]
          first | refine AAt.of (SubH.nil) ?_ | (refine ⟨?_, AAt.of (SubH.nil) ?_⟩; · omega)
          refine AAny.one 2 9 (by kernel_rfl) (by kernel_rfl) (by kernel_rfl) ?_
          simp -dsimp -implicitDefEqProofs (disch := omega) [go_sem, -List.getD_eq_getElem?_getD, ite_yes, si, ht, lf, hz, hzi]
          refine ACall.via (among_R ((h.step (by omega)).app _) (by omega) [-1, 1000000, 1000001] (by simp) (by simp) _ _ (by omega) (Sl.nthS 3 rfl rfl)) ?_
          rintro _ _ ⟨x, rfl, xm, a5, s5, q5, q5', rfl⟩
          have nz := nmD_set L x hz
          have ll : (L.set z x).length = L.length := by simp
          simp -dsimp -implicitDefEqProofs (disch := omega) [go_sem, -List.getD_eq_getElem?_getD, ite_yes, si, ht, lf, hz, hzi, nz]
          first | refine AAt.of (SubH.nil) ?_ | (refine ⟨?_, AAt.of (SubH.nil) ?_⟩; · omega)
          refine AAny.takes (fuel := 1) (by kernel_rfl) (by kernel_rfl) [10] (by kernel_rfl) (by kernel_rfl) ?_
          simp -dsimp -implicitDefEqProofs (disch := omega) [go_sem, -List.getD_eq_getElem?_getD, ite_yes, si, ht, lf, hz, hzi, nz]
          refine AAny.one 0 11 (by kernel_rfl) (by kernel_rfl) (by kernel_rfl) ?_
          simp -dsimp -implicitDefEqProofs (disch := omega) [go_sem, -List.getD_eq_getElem?_getD, ite_yes, si, ht, lf, hz, hzi, nz]
          first | refine AAt.of (SubH.nil) ?_ | (refine ⟨?_, AAt.of (SubH.nil) ?_⟩; · omega)
          refine AAny.done (by kernel_rfl) ?_
          simp -dsimp -implicitDefEqProofs (disch := omega) [go_sem, -List.getD_eq_getElem?_getD, ite_yes, si, ht, lf, hz, hzi, nz]
          exact ll ▸ endArea h id ho (L.set z x) a5 s5 2 _ _ rfl rfl (by omega) (by omega) (by omega)
      · simp -dsimp -implicitDefEqProofs (disch := omega) [go_sem, -List.getD_eq_getElem?_getD, ite_yes, si, ht, lf]
        refine ACall.via (pick_R ((h.step (by omega)).app _) (by omega) L.length (by omega)) ?_
        rintro _ _ ⟨p, rfl, p1, p2, a6, s6, q6, q6', rfl⟩
        obtain ⟨z, rfl⟩ : ∃ z : Nat, p = (z : Int) := ⟨p.toNat, by omega⟩
        have hz : z < L.length := by omega
        have hzi : (z : Int) < (L.length : Int) := by omega
        simp -dsimp -implicitDefEqProofs (disch := omega) [go_sem, -List.getD_eq_getElem?_getD, ite_yes, si, ht, lf, hz, hzi]
        first | refine AAt.of (SubH.nil) ?_ | (refine ⟨?_, AAt.of (SubH.nil) ?_⟩; · omega)
        refine AAny.two 4 1 8 (by kernel_rfl) (by kernel_rfl) (by kernel_rfl) ?_ ?_
        · simp -dsimp -implicitDefEqProofs (disch := omega) [go_sem, -List.getD_eq_getElem?_getD, ite_yes, si, ht, lf, hz, hzi]
          first | refine AAt.of (SubH.nil) ?_ | (refine ⟨?_, AAt.of (SubH.nil) ?_⟩; · omega)
          refine AAny.one 3 8 (by kernel_rfl) (by kernel_rfl) (by kernel_rfl) ?_
          simp -dsimp -implicitDefEqProofs (disch := omega) [go_sem, -List.getD_eq_getElem?_getD, ite_yes, si, ht, lf, hz, hzi]
          first | refine AAt.of (SubH.nil) ?_ | (refine ⟨?_, AAt.of (SubH.nil) ?_⟩; · omega)
          refine AAny.one 2 9 (by kernel_rfl) (by kernel_rfl) (by kernel_rfl) ?_
          simp -dsimp -implicitDefEqProofs (disch := omega) [go_sem, -List.getD_eq_getElem?_getD, ite_yes, si, ht, lf, hz, hzi]
          refine ACall.via (among_R ((h.step (by omega)).app _) (by omega) [-1, 1000000, 1000001] (by simp) (by simp) _ _ (by omega) (Sl.nthS 3 rfl rfl)) ?_
          rintro _ _ ⟨x, rfl, xm, a5, s5, q5, q5', rfl⟩
          have nz := nmD_set L x hz
          have ll : (L.set z x).length = L.length := by simp
          simp -dsimp -implicitDefEqProofs (disch := omega) [go_sem, -List.getD_eq_getElem?_getD, ite_yes, si, ht, lf, hz, hzi, nz]
          first | refine AAt.of (SubH.nil) ?_ | (refine ⟨?_, AAt.of (SubH.nil) ?_⟩; · omega)
          refine AAny.takes (fuel := 1) (by kernel_rfl) (by kernel_rfl) [10] (by kernel_rfl) (by kernel_rfl) ?_
          simp -dsimp -implicitDefEqProofs (disch := omega) [go_sem, -List.getD_eq_getElem?_getD, ite_yes, si, ht, lf, hz, hzi, nz]
          refine AAny.one 0 11 (by kernel_rfl) (by kernel_rfl) (by kernel_rfl) ?_
          simp -dsimp -implicitDefEqProofs (disch := omega) [go_sem, -List.getD_eq_getElem?_getD, ite_yes, si, ht, lf, hz, hzi, nz]
          first | refine AAt.of (SubH.nil) ?_ | (refine ⟨?_, AAt.of (SubH.nil) ?_⟩; · omega)
          refine AAny.done (by kernel_rfl) ?_
          simp -dsimp -implicitDefEqProofs (disch := omega) [go_sem, -List.getD_eq_getElem?_getD, ite_yes, si, ht, lf, hz, hzi, nz]
          exact ll ▸ endArea h id ho (L.set z x) a5 s5 2 _ _ rfl rfl (by omega) (by omega) (by omega)
        · simp -dsimp -implicitDefEqProofs (disch := omega) [go_sem, -List.getD_eq_getElem?_getD, ite_yes, si, ht, lf, hz, hzi]
          first | refine AAt.of (SubH.nil) ?_ | (refine ⟨?_, AAt.of (SubH.nil) ?_⟩; · omega)
          refine AAny.two 3 1 9 (by kernel_rfl) (by kernel_rfl) (by kernel_rfl) ?_ ?_
          · simp -dsimp -implicitDefEqProofs (disch := omega) [go_sem, -List.getD_eq_getElem?_getD, ite_yes, si, ht, lf, hz, hzi]
            first | refine AAt.of (SubH.nil) ?_ | (refine ⟨?_, AAt.of (SubH.nil) ?_⟩; · omega)
            refine AAny.one 2 9 (by kernel_rfl) (by kernel_rfl) (by kernel_rfl) ?_
            simp -dsimp -implicitDefEqProofs (disch := omega) [go_sem, -List.getD_eq_getElem?_getD, ite_yes, si, ht, lf, hz, hzi]
            refine ACall.via (among_R ((h.step (by omega)).app _) (by omega) [-1, 1000000, 1000001] (by simp) (by simp) _ _ (by omega) (Sl.nthS 3 rfl rfl)) ?_
            rintro _ _ ⟨x, rfl, xm, a5, s5, q5, q5', rfl⟩
            have nz := nmD_set L x hz
            have ll : (L.set z x).length = L.length := by simp
            simp -dsimp -implicitDefEqProofs (disch := omega) [go_sem, -List.getD_eq_getElem?_getD, ite_yes, si, ht, lf, hz, hzi, nz]
            first | refine AAt.of (SubH.nil) ?_ | (refine ⟨?_, AAt.of (SubH.nil) ?_⟩; · omega)
            refine AAny.takes (fuel := 1) (by kernel_rfl) (by kernel_rfl) [10] (by kernel_rfl) (by kernel_rfl) ?_
            simp -dsimp -implicitDefEqProofs (disch := omega) [go_sem, -List.getD_eq_getElem?_getD, ite_yes, si, ht, lf, hz, hzi, nz]
            refine AAny.one 0 11 (by kernel_rfl) (by kernel_rfl) (by kernel_rfl) ?_
            simp -dsimp -implicitDefEqProofs (disch := omega) [go_sem, -List.getD_eq_getElem?_getD, ite_yes, si, ht, lf, hz, hzi, nz]
            first | refine AAt.of (SubH.nil) ?_ | (refine ⟨?_, AAt.of (SubH.nil) ?_⟩; · omega)
            refine AAny.done (by kernel_rfl) ?_
            simp -dsimp -implicitDefEqProofs (disch := omega) [go_sem, -List.getD_eq_getElem?_getD, ite_yes, si, ht, lf, hz, hzi, nz]
            exact ll ▸ endArea h id ho (L.set z x) a5 s5 2 _ _ rfl rfl (by omega) (by omega) (by omega)
          · simp -dsimp -implicitDefEqProofs (disch := omega) [go_sem, -List.getD_eq_getElem?_getD, ite_yes, si, ht, lf, hz, hzi]
            refine ACall.via (among_R ((h.step (by omega)).app _) (by omega) [-1, 1000000, 1000001] (by simp) (by simp) _ _ (by omega) (Sl.nthS 3 rfl rfl)) ?_
            rintro _ _ ⟨x, rfl, xm, a5, s5, q5, q5', rfl⟩
            have nz := nmD_set L x hz
            have ll : (L.set z x).length = L.length := by simp
            simp -dsimp -implicitDefEqProofs (disch := omega) [go_sem, -List.getD_eq_getElem?_getD, ite_yes, si, ht, lf, hz, hzi, nz]
            first | refine AAt.of (SubH.nil) ?_ | (refine ⟨?_, AAt.of (SubH.nil) ?_⟩; · omega)
            refine AAny.one 2 1 (by kernel_rfl) (by kernel_rfl) (by kernel_rfl) ?_
            simp -dsimp -implicitDefEqProofs (disch := omega) [go_sem, -List.getD_eq_getElem?_getD, ite_yes, si, ht, lf, hz, hzi, nz]
            first | refine AAt.of (SubH.nil) ?_ | (refine ⟨?_, AAt.of (SubH.nil) ?_⟩; · omega)
            refine AAny.takes (fuel := 1) (by kernel_rfl) (by kernel_rfl) [10] (by kernel_rfl) (by kernel_rfl) ?_
            simp -dsimp -implicitDefEqProofs (disch := omega) [go_sem, -List.getD_eq_getElem?_getD, ite_yes, si, ht, lf, hz, hzi, nz]
            refine AAny.one 0 11 (by kernel_rfl) (by kernel_rfl) (by kernel_rfl) ?_
            simp -dsimp -implicitDefEqProofs (disch := omega) [go_sem, -List.getD_eq_getElem?_getD, ite_yes, si, ht, lf, hz, hzi, nz]
            first | refine AAt.of (SubH.nil) ?_ | (refine ⟨?_, AAt.of (SubH.nil) ?_⟩; · omega)
            refine AAny.done (by kernel_rfl) ?_
            simp -dsimp -implicitDefEqProofs (disch := omega) [go_sem, -List.getD_eq_getElem?_getD, ite_yes, si, ht, lf, hz, hzi, nz]
            exact ll ▸ endArea h id ho (L.set z x) a5 s5 2 _ _ rfl rfl (by omega) (by omega) (by omega)
      · simp -dsimp -implicitDefEqProofs (disch := omega) [go_sem, -List.getD_eq_getElem?_getD, ite_yes, si, ht, lf]
        first | refine AAt.of (SubH.nil) ?_ | (refine ⟨?_, AAt.of (SubH.nil) ?_⟩; · omega)
        refine AAny.two 4 1 6 (by kernel_rfl) (by kernel_rfl) (by kernel_rfl) ?_ ?_
        · simp -dsimp -implicitDefEqProofs (disch := omega) [go_sem, -List.getD_eq_getElem?_getD, ite_yes, si, ht, lf]
          first | refine AAt.of (SubH.nil) ?_ | (refine ⟨?_, AAt.of (SubH.nil) ?_⟩; · omega)
          refine AAny.one 3 6 (by kernel_rfl) (by kernel_rfl) (by kernel_rfl) ?_
          simp -dsimp -implicitDefEqProofs (disch := omega) [go_sem, -List.getD_eq_getElem?_getD, ite_yes, si, ht, lf]
          refine ACall.via (pick_R ((h.step (by omega)).app _) (by omega) L.length (by omega)) ?_
          rintro _ _ ⟨p, rfl, p1, p2, a6, s6, q6, q6', rfl⟩
          obtain ⟨z, rfl⟩ : ∃ z : Nat, p = (z : Int) := ⟨p.toNat, by omega⟩
          have hz : z < L.length := by omega
          have hzi : (z : Int) < (L.length : Int) := by omega
          simp -dsimp -implicitDefEqProofs (disch := omega) [go_sem, -List.getD_eq_getElem?_getD, ite_yes, si, ht, lf, hz, hzi]
          first | refine AAt.of (SubH.nil) ?_ | (refine ⟨?_, AAt.of (SubH.nil) ?_⟩; · omega)
          refine AAny.one 2 9 (by kernel_rfl) (by kernel_rfl) (by kernel_rfl) ?_
          simp -dsimp -implicitDefEqProofs (disch := omega) [go_sem, -List.getD_eq_getElem?_getD, ite_yes, si, ht, lf, hz, hzi]
          refine ACall.via (among_R ((h.step (by omega)).app _) (by omega) [-1, 1000000, 1000001] (by simp) (by simp) _ _ (by omega) (Sl.nthS 3 rfl rfl)) ?_
          rintro _ _ ⟨x, rfl, xm, a5, s5, q5, q5', rfl⟩
          have nz := nmD_set L x hz
          have ll : (L.set z x).length = L.length := by simp
          simp -dsimp -implicitDefEqProofs (disch := omega) [go_sem, -List.getD_eq_getElem?_getD, ite_yes, si, ht, lf, hz, hzi, nz]
          first | refine AAt.of (SubH.nil) ?_ | (refine ⟨?_, AAt.of (SubH.nil) ?_⟩; · omega)
          refine AAny.takes (fuel := 1) (by kernel_rfl) (by kernel_rfl) [10] (by kernel_rfl) (by kernel_rfl) ?_
          simp -dsimp -implicitDefEqProofs (disch := omega) [go_sem, -List.getD_eq_getElem?_getD, ite_yes, si, ht, lf, hz, hzi, nz]
          refine AAny.one 0 11 (by kernel_rfl) (by kernel_rfl) (by kernel_rfl) ?_
          simp -dsimp -implicitDefEqProofs (disch := omega) [go_sem, -List.getD_eq_getElem?_getD, ite_yes, si, ht, lf, hz, hzi, nz]
          first | refine AAt.of (SubH.nil) ?_ | (refine ⟨?_, AAt.of (SubH.nil) ?_⟩; · omega)
          refine AAny.done (by kernel_rfl) ?_
          simp -dsimp -implicitDefEqProofs (disch := omega) [go_sem, -List.getD_eq_getElem?_getD, ite_yes, si, ht, lf, hz, hzi, nz]
          exact ll ▸ endArea h id ho (L.set z x) a5 s5 2 _ _ rfl rfl (by omega) (by omega) (by omega)
        · simp -dsimp -implicitDefEqProofs (disch := omega) [go_sem, -List.getD_eq_getElem?_getD, ite_yes, si, ht, lf]
          refine ACall.via (pick_R ((h.step (by omega)).app _) (by omega) L.length (by omega)) ?_
          rintro _ _ ⟨p, rfl, p1, p2, a6, s6, q6, q6', rfl⟩
          obtain ⟨z, rfl⟩ : ∃ z : Nat, p = (z : Int) := ⟨p.toNat, by omega⟩
          have hz : z < L.length := by omega
          have hzi : (z : Int) < (L.length : Int) := by omega
          simp -dsimp -implicitDefEqProofs (disch := omega) [go_sem, -List.getD_eq_getElem?_getD, ite_yes, si, ht, lf, hz, hzi]
          first | refine AAt.of (SubH.nil) ?_ | (refine ⟨?_, AAt.of (SubH.nil) ?_⟩; · omega)
          refine AAny.two 3 1 9 (by kernel_rfl) (by kernel_rfl) (by kernel_rfl) ?_ ?_
          · simp -dsimp -implicitDefEqProofs (disch := omega) [go_sem, -List.getD_eq_getElem?_getD, ite_yes, si, ht, lf, hz, hzi]
            first | refine AAt.of (SubH.nil) ?_ | (refine ⟨?_, AAt.of (SubH.nil) ?_⟩; · omega)
            refine AAny.one 2 9 (by kernel_rfl) (by kernel_rfl) (by kernel_rfl) ?_
            simp -dsimp -implicitDefEqProofs (disch := omega) [go_sem, -List.getD_eq_getElem?_getD, ite_yes, si, ht, lf, hz, hzi]
            refine ACall.via (among_R ((h.step (by omega)).app _) (by omega) [-1, 1000000, 1000001] (by simp) (by simp) _ _ (by omega) (Sl.nthS 3 rfl rfl)) ?_
            rintro _ _ ⟨x, rfl, xm, a5, s5, q5, q5', rfl⟩
            have nz := nmD_set L x hz
            have ll : (L.set z x).length = L.length := by simp
            simp -dsimp -implicitDefEqProofs (disch := omega) [go_sem, -List.getD_eq_getElem?_getD, ite_yes, si, ht, lf, hz, hzi, nz]
            first | refine AAt.of (SubH.nil) ?_ | (refine ⟨?_, AAt.of (SubH.nil) ?_⟩; · omega)
            refine AAny.takes (fuel := 1) (by kernel_rfl) (by kernel_rfl) [10] (by kernel_rfl) (by kernel_rfl) ?_
            simp -dsimp -implicitDefEqProofs (disch := omega) [go_sem, -List.getD_eq_getElem?_getD, ite_yes, si, ht, lf, hz, hzi, nz]
            refine AAny.one 0 11 (by kernel_rfl) (by kernel_rfl) (by kernel_rfl) ?_
            simp -dsimp -implicitDefEqProofs (disch := omega) [go_sem, -List.getD_eq_getElem?_getD, ite_yes, si, ht, lf, hz, hzi, nz]
            first | refine AAt.of (SubH.nil) ?_ | (refine ⟨?_, AAt.of (SubH.nil) ?_⟩; · omega)
            refine AAny.done (by kernel_rfl) ?_
            simp -dsimp -implicitDefEqProofs (disch := omega) [go_sem, -List.getD_eq_getElem?_getD, ite_yes, si, ht, lf, hz, hzi, nz]
            exact ll ▸ endArea h id ho (L.set z x) a5 s5 2 _ _ rfl rfl (by omega) (by omega) (by omega)
          · simp -dsimp -implicitDefEqProofs (disch := omega) [go_sem, -List.getD_eq_getElem?_getD, ite_yes, si, ht, lf, hz, hzi]
            refine ACall.via (among_R ((h.step (by omega)).app _) (by omega) [-1, 1000000, 1000001] (by simp) (by simp) _ _ (by omega) (Sl.nthS 3 rfl rfl)) ?_
            rintro _ _ ⟨x, rfl, xm, a5, s5, q5, q5', rfl⟩
            have nz := nmD_set L x hz
            have ll : (L.set z x).length = L.length := by simp
            simp -dsimp -implicitDefEqProofs (disch := omega) [go_sem, -List.getD_eq_getElem?_getD, ite_yes, si, ht, lf, hz, hzi, nz]
            first | refine AAt.of (SubH.nil) ?_ | (refine ⟨?_, AAt.of (SubH.nil) ?_⟩; · omega)
            refine AAny.one 2 1 (by kernel_rfl) (by kernel_rfl) (by kernel_rfl) ?_
            simp -dsimp -implicitDefEqProofs (disch := omega) [go_sem, -List.getD_eq_getElem?_getD, ite_yes, si, ht, lf, hz, hzi, nz]
            first | refine AAt.of (SubH.nil) ?_ | (refine ⟨?_, AAt.of (SubH.nil) ?_⟩; · omega)
            refine AAny.takes (fuel := 1) (by kernel_rfl) (by kernel_rfl) [10] (by kernel_rfl) (by kernel_rfl) ?_
            simp -dsimp -implicitDefEqProofs (disch := omega) [go_sem, -List.getD_eq_getElem?_getD, ite_yes, si, ht, lf, hz, hzi, nz]
            refine AAny.one 0 11 (by kernel_rfl) (by kernel_rfl) (by kernel_rfl) ?_
            simp -dsimp -implicitDefEqProofs (disch := omega) [go_sem, -List.getD_eq_getElem?_getD, ite_yes, si, ht, lf, hz, hzi, nz]
            first | refine AAt.of (SubH.nil) ?_ | (refine ⟨?_, AAt.of (SubH.nil) ?_⟩; · omega)
            refine AAny.done (by kernel_rfl) ?_
            simp -dsimp -implicitDefEqProofs (disch := omega) [go_sem, -List.getD_eq_getElem?_getD, ite_yes, si, ht, lf, hz, hzi, nz]
            exact ll ▸ endArea h id ho (L.set z x) a5 s5 2 _ _ rfl rfl (by omega) (by omega) (by omega)
    · simp -dsimp -implicitDefEqProofs (disch := omega) [go_sem, -List.getD_eq_getElem?_getD, ite_yes, si, ht, lf]
      first | refine AAt.of (SubH.nil) ?_ | (refine ⟨?_, AAt.of (SubH.nil) ?_⟩; · omega)
      refine AAny.two 6 1 4 (by kernel_rfl) (by kernel_rfl) (by kernel_rfl) ?_ ?_
      · simp -dsimp -implicitDefEqProofs (disch := omega) [go_sem, -List.getD_eq_getElem?_getD, ite_yes, si, ht, lf]
        first | refine AAt.of (SubH.nil) ?_ | (refine ⟨?_, AAt.of (SubH.nil) ?_⟩; · omega)
        refine AAny.one 5 4 (by kernel_rfl) (by kernel_rfl) (by kernel_rfl) ?_
        simp -dsimp -implicitDefEqProofs (disch := omega) [go_sem, -List.getD_eq_getElem?_getD, ite_yes, si, ht, lf]
        first | refine AAt.of (SubH.nil) ?_ | (refine ⟨?_, AAt.of (SubH.nil) ?_⟩; · omega)
        refine AAny.takes (fuel := 4) (by kernel_rfl) (by kernel_rfl) [5] (by kernel_rfl) (by kernel_rfl) ?_
        simp -dsimp -implicitDefEqProofs (disch := omega) [go_sem, -List.getD_eq_getElem?_getD, ite_yes, si, ht, lf]
        refine AAny.one 3 6 (by kernel_rfl) (by kernel_rfl) (by kernel_rfl) ?_
        simp -dsimp -implicitDefEqProofs (disch := omega) [go_sem, -List.getD_eq_getElem?_getD, ite_yes, si, ht, lf]
        refine ACall.via (pick_R ((h.step (by omega)).app _) (by omega) L.length (by omega)) ?_
        rintro _ _ ⟨p, rfl, p1, p2, a6, s6, q6, q6', rfl⟩
        obtain ⟨z, rfl⟩ : ∃ z : Nat, p = (z : Int) := ⟨p.toNat, by omega⟩
        have hz : z < L.length := by omega
        have hzi : (z : Int) < (L.length : Int) := by omega
        simp -dsimp -implicitDefEqProofs (disch := omega) [go_sem, -List.getD_eq_getElem?_getD, ite_yes, si, ht, lf, hz, hzi]
        first | refine AAt.of (SubH.nil) ?_ | (refine ⟨?_, AAt.of (SubH.nil) ?_⟩; · omega)
        refine AAny.one 2 9 (by kernel_rfl) (by kernel_rfl) (by kernel_rfl) ?_
        simp -dsimp -implicitDefEqProofs (disch := omega) [go_sem, -List.getD_eq_getElem?_getD, ite_yes, si, ht, lf, hz, hzi]
        refine ACall.via (among_R ((h.step (by omega)).app _) (by omega) [-1, 1000000, 1000001] (by simp) (by simp) _ _ (by omega) (Sl.nthS 3 rfl rfl)) ?_
        rintro _ _ ⟨x, rfl, xm, a5, s5, q5, q5', rfl⟩
        have nz := nmD_set L x hz
        have ll : (L.set z x).length = L.length := by simp
        simp -dsimp -implicitDefEqProofs (disch := omega) [go_sem, -List.getD_eq_getElem?_getD, ite_yes, si, ht, lf, hz, hzi, nz]
        first | refine AAt.of (SubH.nil) ?_ | (refine ⟨?_, AAt.of (SubH.nil) ?_⟩; · omega)
        refine AAny.takes (fuel := 1) (by kernel_rfl) (by kernel_rfl) [10] (by kernel_rfl) (by kernel_rfl) ?_
        simp -dsimp -implicitDefEqProofs (disch := omega) [go_sem, -List.getD_eq_getElem?_getD, ite_yes, si, ht, lf, hz, hzi, nz]
        refine AAny.one 0 11 (by kernel_rfl) (by kernel_rfl) (by kernel_rfl) ?_
        simp -dsimp -implicitDefEqProofs (disch := omega) [go_sem, -List.getD_eq_getElem?_getD, ite_yes, si, ht, lf, hz, hzi, nz]
        first | refine AAt.of (SubH.nil) ?_ | (refine ⟨?_, AAt.of (SubH.nil) ?_⟩; · omega)
        refine AAny.done (by kernel_rfl) ?_
        simp -dsimp -implicitDefEqProofs (disch := omega) [go_sem, -List.getD_eq_getElem?_getD, ite_yes, si, ht, lf, hz, hzi, nz]
        exact ll ▸ endArea h id ho (L.set z x) a5 s5 2 _ _ rfl rfl (by omega) (by omega) (by omega)
      · simp -dsimp -implicitDefEqProofs (disch := omega) [go_sem, -List.getD_eq_getElem?_getD, ite_yes, si, ht, lf]
        first | refine AAt.of (SubH.nil) ?_ | (refine ⟨?_, AAt.of (SubH.nil) ?_⟩; · omega)
        refine AAny.takes (fuel := 5) (by kernel_rfl) (by kernel_rfl) [5] (by kernel_rfl) (by kernel_rfl) ?_
        simp -dsimp -implicitDefEqProofs (disch := omega) [go_sem, -List.getD_eq_getElem?_getD, ite_yes, si, ht, lf]
        refine AAny.two 4 1 6 (by kernel_rfl) (by kernel_rfl) (by kernel_rfl) ?_ ?_
        · simp -dsimp -implicitDefEqProofs (disch := omega) [go_sem, -List.getD_eq_getElem?_getD, ite_yes, si, ht, lf]
          first | refine AAt.of (SubH.nil) ?_ | (refine ⟨?_, AAt.of (SubH.nil) ?_⟩; · omega)
          refine AAny.one 3 6 (by kernel_rfl) (by kernel_rfl) (by kernel_rfl) ?_
          simp -dsimp -implicitDefEqProofs (disch := omega) [go_sem, -List.getD_eq_getElem?_getD, ite_yes, si, ht, lf]
          refine ACall.via (pick_R ((h.step (by omega)).app _) (by omega) L.length (by omega)) ?_
          rintro _ _ ⟨p, rfl, p1, p2, a6, s6, q6, q6', rfl⟩
          obtain ⟨z, rfl⟩ : ∃ z : Nat, p = (z : Int) := ⟨p.toNat, by omega⟩
          have hz : z < L.length := by omega
          have hzi : (z : Int) < (L.length : Int) := by omega
          simp -dsimp -implicitDefEqProofs (disch := omega) [go_sem, -List.getD_eq_getElem?_getD, ite_yes, si, ht, lf, hz, hzi]
          first | refine AAt.of (SubH.nil) ?_ | (refine ⟨?_, AAt.of (SubH.nil) ?_⟩; · omega)
          refine AAny.one 2 9 (by kernel_rfl) (by kernel_rfl) (by kernel_rfl) ?_
          simp -dsimp -implicitDefEqProofs (disch := omega) [go_sem, -List.getD_eq_getElem?_getD, ite_yes, si, ht, lf, hz, hzi]
          refine ACall.via (among_R ((h.step (by omega)).app _) (by omega) [-1, 1000000, 1000001] (by simp) (by simp) _ _ (by omega) (Sl.nthS 3 rfl rfl)) ?_
          rintro _ _ ⟨x, rfl, xm, a5, s5, q5, q5', rfl⟩
          have nz := nmD_set L x hz
          have ll : (L.set z x).length = L.length := by simp
          simp -dsimp -implicitDefEqProofs (disch := omega) [go_sem, -List.getD_eq_getElem?_getD, ite_yes, si, ht, lf, hz, hzi, nz]
          first | refine AAt.of (SubH.nil) ?_ | (refine ⟨?_, AAt.of (SubH.nil) ?_⟩; · omega)
          refine AAny.takes (fuel := 1) (by kernel_rfl) (by kernel_rfl) [10] (by kernel_rfl) (by kernel_rfl) ?_
          simp -dsimp -implicitDefEqProofs (disch := omega) [go_sem, -List.getD_eq_getElem?_getD, ite_yes, si, ht, lf, hz, hzi, nz]
          refine AAny.one 0 11 (by kernel_rfl) (by kernel_rfl) (by kernel_rfl) ?_
          simp -dsimp -implicitDefEqProofs (disch := omega) [go_sem, -List.getD_eq_getElem?_getD, ite_yes, si, ht, lf, hz, hzi, nz]
          first | refine AAt.of (SubH.nil) ?_ | (refine ⟨?_, AAt.of (SubH.nil) ?_⟩; · omega)
          refine AAny.done (by kernel_rfl) ?_
          simp -dsimp -implicitDefEqProofs (disch := omega) [go_sem, -List.getD_eq_getElem?_getD, ite_yes, si, ht, lf, hz, hzi, nz]
          exact ll ▸ endArea h id ho (L.set z x) a5 s5 2 _ _ rfl rfl (by omega) (by omega) (by omega)
        · simp -dsimp -implicitDefEqProofs (disch := omega) [go_sem, -List.getD_eq_getElem?_getD, ite_yes, si, ht, lf]
          refine ACall.via (pick_R ((h.step (by omega)).app _) (by omega) L.length (by omega)) ?_
          rintro _ _ ⟨p, rfl, p1, p2, a6, s6, q6, q6', rfl⟩
          obtain ⟨z, rfl⟩ : ∃ z : Nat, p = (z : Int) := ⟨p.toNat, by omega⟩
          have hz : z < L.length := by omega
          have hzi : (z : Int) < (L.length : Int) := by omega
          simp -dsimp -implicitDefEqProofs (disch := omega) [go_sem, -List.getD_eq_getElem?_getD, ite_yes, si, ht, lf, hz, hzi]
          first | refine AAt.of (SubH.nil) ?_ | (refine ⟨?_, AAt.of (SubH.nil) ?_⟩; · omega)
          refine AAny.two 3 1 9 (by kernel_rfl) (by kernel_rfl) (by kernel_rfl) ?_ ?_
          · simp -dsimp -implicitDefEqProofs (disch := omega) [go_sem, -List.getD_eq_getElem?_getD, ite_yes, si, ht, lf, hz, hzi]
            first | refine AAt.of (SubH.nil) ?_ | (refine ⟨?_, AAt.of (SubH.nil) ?_⟩; · omega)
            refine AAny.one 2 9 (by kernel_rfl) (by kernel_rfl) (by kernel_rfl) ?_
            simp -dsimp -implicitDefEqProofs (disch := omega) [go_sem, -List.getD_eq_getElem?_getD, ite_yes, si, ht, lf, hz, hzi]
            refine ACall.via (among_R ((h.step (by omega)).app _) (by omega) [-1, 1000000, 1000001] (by simp) (by simp) _ _ (by omega) (Sl.nthS 3 rfl rfl)) ?_
            rintro _ _ ⟨x, rfl, xm, a5, s5, q5, q5', rfl⟩
            have nz := nmD_set L x hz
            have ll : (L.set z x).length = L.length := by simp
            simp -dsimp -implicitDefEqProofs (disch := omega) [go_sem, -List.getD_eq_getElem?_getD, ite_yes, si, ht, lf, hz, hzi, nz]
            first | refine AAt.of (SubH.nil) ?_ | (refine ⟨?_, AAt.of (SubH.nil) ?_⟩; · omega)
            refine AAny.takes (fuel := 1) (by kernel_rfl) (by kernel_rfl) [10] (by kernel_rfl) (by kernel_rfl) ?_
            simp -dsimp -implicitDefEqProofs (disch := omega) [go_sem, -List.getD_eq_getElem?_getD, ite_yes, si, ht, lf, hz, hzi, nz]
            refine AAny.one 0 11 (by kernel_rfl) (by kernel_rfl) (by kernel_rfl) ?_
            simp -dsimp -implicitDefEqProofs (disch := omega) [go_sem, -List.getD_eq_getElem?_getD, ite_yes, si, ht, lf, hz, hzi, nz]
            first | refine AAt.of (SubH.nil) ?_ | (refine ⟨?_, AAt.of (SubH.nil) ?_⟩; · omega)
            refine AAny.done (by kernel_rfl) ?_
            simp -dsimp -implicitDefEqProofs (disch := omega) [go_sem, -List.getD_eq_getElem?_getD, ite_yes, si, ht, lf, hz, hzi, nz]
            exact ll ▸ endArea h id ho (L.set z x) a5 s5 2 _ _ rfl rfl (by omega) (by omega) (by omega)
          · simp -dsimp -implicitDefEqProofs (disch := omega) [go_sem, -List.getD_eq_getElem?_getD, ite_yes, si, ht, lf, hz, hzi]
            refine ACall.via (among_R ((h.step (by omega)).app _) (by omega) [-1, 1000000, 1000001] (by simp) (by simp) _ _ (by omega) (Sl.nthS 3 rfl rfl)) ?_
            rintro _ _ ⟨x, rfl, xm, a5, s5, q5, q5', rfl⟩
            have nz := nmD_set L x hz
            have ll : (L.set z x).length = L.length := by simp
            simp -dsimp -implicitDefEqProofs (disch := omega) [go_sem, -List.getD_eq_getElem?_getD, ite_yes, si, ht, lf, hz, hzi, nz]
            first | refine AAt.of (SubH.nil) ?_ | (refine ⟨?_, AAt.of (SubH.nil) ?_⟩; · omega)
            refine AAny.one 2 1 (by kernel_rfl) (by kernel_rfl) (by kernel_rfl) ?_
            simp -dsimp -implicitDefEqProofs (disch := omega) [go_sem, -List.getD_eq_getElem?_getD, ite_yes, si, ht, lf, hz, hzi, nz]
            first | refine AAt.of (SubH.nil) ?_ | (refine ⟨?_, AAt.of (SubH.nil) ?_⟩; · omega)
            refine AAny.takes (fuel := 1) (by kernel_rfl) (by kernel_rfl) [10] (by kernel_rfl) (by kernel_rfl) ?_
            simp -dsimp -implicitDefEqProofs (disch := omega) [go_sem, -List.getD_eq_getElem?_getD, ite_yes, si, ht, lf, hz, hzi, nz]
            refine AAny.one 0 11 (by kernel_rfl) (by kernel_rfl) (by kernel_rfl) ?_
            simp -dsimp -implicitDefEqProofs (disch := omega) [go_sem, -List.getD_eq_getElem?_getD, ite_yes, si, ht, lf, hz, hzi, nz]
            first | refine AAt.of (SubH.nil) ?_ | (refine ⟨?_, AAt.of (SubH.nil) ?_⟩; · omega)
            refine AAny.done (by kernel_rfl) ?_
            simp -dsimp -implicitDefEqProofs (disch := omega) [go_sem, -List.getD_eq_getElem?_getD, ite_yes, si, ht, lf, hz, hzi, nz]
            exact ll ▸ endArea h id ho (L.set z x) a5 s5 2 _ _ rfl rfl (by omega) (by omega) (by omega)
  simp -dsimp -implicitDefEqProofs (disch := omega) [go_sem, -List.getD_eq_getElem?_getD, ite_yes, si]
  refine AIf.of (fun w3 => ?_) (fun w3 => ?_)
  · simp -dsimp -implicitDefEqProofs (disch := omega) [go_sem, -List.getD_eq_getElem?_getD, ite_yes, si]
    refine ALoop.intro (ι := ArI) (fun i => i.L.length ≤ 16 ∧ at_ ≤ i.a ∧ i.a ≤ at_ + 80 + 2 * i.L.length) (fun i => [(0, .pointer (some ⟨t, 0, none⟩)), (4, .pointer (some ⟨H.length, 0, none⟩)), (5, .pointer (some ⟨H.length + 1, 0, none⟩))])
      (fun i => H.set t (curB tc n cc i.a i.s) ++ [some ⟨[.int .i64 0, .int .i64 0, .slice none 0 0], true, 26, 1⟩, some ⟨[.int .i64 id, .int .i64 ho, .slice (some ⟨H.length + 2, 0, none⟩) i.L.length i.L.length], true, 26, 1⟩, some ⟨i.L.flatMap nmE, true, 3, 1⟩]) (fun i => 16 - i.L.length) ⟨0, L, 0, a4, s4⟩ ⟨by simp only; omega, by simp only; omega, by simp only; omega⟩ ?_ ?_
    · refine weakS_sets [some 0, some 1, some 2] rfl ht (h.wms _ _ _ _) ?_ (by simp -dsimp -implicitDefEqProofs (disch := omega) [go_sem, -List.getD_eq_getElem?_getD, ite_yes, ht])
      simp -dsimp -implicitDefEqProofs (disch := omega) [go_sem, -List.getD_eq_getElem?_getD, ite_yes]
      exact ⟨.inl ⟨rfl, rfl⟩, wl_ar (u := 2) (i := 2) (by omega) (by simp [sg]), .inl ⟨rfl, nmE_flat _⟩⟩
    clear i1 i2 i3 i4 i5 hl1 hl7 lf q4 q4'
    rintro ⟨_, L, _, a, s⟩ ⟨i1, i2, i3⟩
    simp only at i1 i2 i3
    have lf := nmE_length L
    simp -dsimp -implicitDefEqProofs (disch := omega) [go_sem, -List.getD_eq_getElem?_getD, ite_yes]
    refine ADraw.any [] (by kernel_rfl) (SubH.nil) ?_
    refine AAny.takes (fuel := 5) (by kernel_rfl) (by kernel_rfl) [0, 3] (by kernel_rfl) (by kernel_rfl) ?_
    simp -dsimp -implicitDefEqProofs (disch := omega) [go_sem, -List.getD_eq_getElem?_getD, ite_yes, si, ht, lf]
    refine AAny.two 4 1 4 (by kernel_rfl) (by kernel_rfl) (by kernel_rfl) ?_ ?_
    · simp -dsimp -implicitDefEqProofs (disch := omega) [go_sem, -List.getD_eq_getElem?_getD, ite_yes, si, ht, lf]
      first | refine AAt.of (SubH.nil) ?_ | (refine ⟨?_, AAt.of (SubH.nil) ?_⟩; · omega)
      refine AAny.takes (fuel := 3) (by kernel_rfl) (by kernel_rfl) [2] (by kernel_rfl) (by kernel_rfl) ?_
      simp -dsimp -implicitDefEqProofs (disch := omega) [go_sem, -List.getD_eq_getElem?_getD, ite_yes, si, ht, lf]
      refine AAny.one 2 4 (by kernel_rfl) (by kernel_rfl) (by kernel_rfl) ?_
      simp -dsimp -implicitDefEqProofs (disch := omega) [go_sem, -List.getD_eq_getElem?_getD, ite_yes, si, ht, lf]
      refine ACall.via (pick_R ((h.step (by omega)).app _) (by omega) 2 (by omega)) ?_
      rintro _ _ ⟨p, rfl, p1, p2, a6, s6, q6, q6', rfl⟩
      simp -dsimp -implicitDefEqProofs (disch := omega) [go_sem, -List.getD_eq_getElem?_getD, ite_yes, si, ht, lf]
      first | refine AAt.of (SubH.nil) ?_ | (refine ⟨?_, AAt.of (SubH.nil) ?_⟩; · omega)
      refine AAny.takes (fuel := 0) (by kernel_rfl) (by kernel_rfl) [5, 6] (by kernel_rfl) (by kernel_rfl) ?_
      simp -dsimp -implicitDefEqProofs (disch := omega) [go_sem, -List.getD_eq_getElem?_getD, ite_yes, si, ht, lf]
      refine AAny.done (by kernel_rfl) ?_
      simp -dsimp -implicitDefEqProofs (disch := omega) [go_sem, -List.getD_eq_getElem?_getD, ite_yes, si, ht, lf]
      by_cases hlt : (L.length : Int) < 14 + p
      rotate_left
      · simp -dsimp -implicitDefEqProofs (disch := omega) [go_sem, -List.getD_eq_getElem?_getD, ite_yes, si, hlt]
        exact endArea h id ho L a6 s6 2 _ _ rfl rfl (by omega) (by omega) (by omega)
      simp -dsimp -implicitDefEqProofs (disch := omega) [go_sem, -List.getD_eq_getElem?_getD, ite_yes, si, hlt, lf]
      refine ⟨by omega, ?_⟩
      have l1 : (L ++ [(7 : Int)]).length = L.length + 1 := by simp
      refine LoopEnd.of ⟨0, L ++ [7], 0, a6, s6⟩ ⟨by simp only [l1]; omega, by simp only; omega, by simp only [l1]; omega⟩ (by simp only [l1]; omega) (weakS_sets [some 0, some 1, some 4] rfl ht (h.wms _ _ _ _) ?_ (by simp -dsimp -implicitDefEqProofs (disch := omega) [go_sem, -List.getD_eq_getElem?_getD, ite_yes, ht, l1]))
      simp -dsimp -implicitDefEqProofs (disch := omega) [go_sem, -List.getD_eq_getElem?_getD, ite_yes, l1]
      exact ⟨.inl ⟨rfl, rfl⟩, wl_ar (u := 2) (i := 4) (by omega) (by simp [sg]), .inl ⟨by simp [nmE], by simp [nmE, flat]⟩⟩
    · simp -dsimp -implicitDefEqProofs (disch := omega) [go_sem, -List.getD_eq_getElem?_getD, ite_yes, si, ht, lf]
      refine ACall.via (pick_R ((h.step (by omega)).app _) (by omega) 2 (by omega)) ?_
      rintro _ _ ⟨p, rfl, p1, p2, a6, s6, q6, q6', rfl⟩
      simp -dsimp -implicitDefEqProofs (disch := omega) [go_sem, -List.getD_eq_getElem?_getD, ite_yes, si, ht, lf]
      first | refine AAt.of (SubH.nil) ?_ | (refine ⟨?_, AAt.of (SubH.nil) ?_⟩; · omega)
      refine AAny.takes (fuel := 3) (by kernel_rfl) (by kernel_rfl) [5] (by kernel_rfl) (by kernel_rfl) ?_
      simp -dsimp -implicitDefEqProofs (disch := omega) [go_sem, -List.getD_eq_getElem?_getD, ite_yes, si, ht, lf]
      refine AAny.one 2 1 (by kernel_rfl) (by kernel_rfl) (by kernel_rfl) ?_
      simp -dsimp -implicitDefEqProofs (disch := omega) [go_sem, -List.getD_eq_getElem?_getD, ite_yes, si, ht, lf]
      first | refine AAt.of (SubH.nil) ?_ | (refine ⟨?_, AAt.of (SubH.nil) ?_⟩; · omega)
      refine AAny.takes (fuel := 0) (by kernel_rfl) (by kernel_rfl) [2, 6] (by kernel_rfl) (by kernel_rfl) ?_
      simp -dsimp -implicitDefEqProofs (disch := omega) [go_sem, -List.getD_eq_getElem?_getD, ite_yes, si, ht, lf]
      refine AAny.done (by kernel_rfl) ?_
      simp -dsimp -implicitDefEqProofs (disch := omega) [go_sem, -List.getD_eq_getElem?_getD, ite_yes, si, ht, lf]
      by_cases hlt : (L.length : Int) < 14 + p
      rotate_left
      · simp -dsimp -implicitDefEqProofs (disch := omega) [go_sem, -List.getD_eq_getElem?_getD, ite_yes, si, hlt]
        exact endArea h id ho L a6 s6 2 _ _ rfl rfl (by omega) (by omega) (by omega)
      simp -dsimp -implicitDefEqProofs (disch := omega) [go_sem, -List.getD_eq_getElem?_getD, ite_yes, si, hlt, lf]
      refine ⟨by omega, ?_⟩
      have l1 : (L ++ [(7 : Int)]).length = L.length + 1 := by simp
      refine LoopEnd.of ⟨0, L ++ [7], 0, a6, s6⟩ ⟨by simp only [l1]; omega, by simp only; omega, by simp only [l1]; omega⟩ (by simp only [l1]; omega) (weakS_sets [some 0, some 1, some 4] rfl ht (h.wms _ _ _ _) ?_ (by simp -dsimp -implicitDefEqProofs (disch := omega) [go_sem, -List.getD_eq_getElem?_getD, ite_yes, ht, l1]))
      simp -dsimp -implicitDefEqProofs (disch := omega) [go_sem, -List.getD_eq_getElem?_getD, ite_yes, l1]
      exact ⟨.inl ⟨rfl, rfl⟩, wl_ar (u := 2) (i := 4) (by omega) (by simp [sg]), .inl ⟨by simp [nmE], by simp [nmE, flat]⟩⟩
  simp -dsimp -implicitDefEqProofs (disch := omega) [go_sem, -List.getD_eq_getElem?_getD, ite_yes, si]
  refine AIf.of (fun w4 => ?_) (fun w4 => ?_)
  · simp -dsimp -implicitDefEqProofs (disch := omega) [go_sem, -List.getD_eq_getElem?_getD, ite_yes, si]
    exact endArea h id ho [] a4 s4 3 _ _ rfl rfl (by simp) (by omega) (by omega)
  · simp -dsimp -implicitDefEqProofs (disch := omega) [go_sem, -List.getD_eq_getElem?_getD, ite_yes, si]
    exact endArea h id ho L a4 s4 2 _ _ rfl rfl (by omega) (by omega) (by omega)
end Go.Proofs.Yteojpgmclplggaa
/- What FnLeakLosses draws: an area, and a night. -/
namespace Go.Proofs.Yteojpgmclplggaa
open Go.Am
set_option linter.unusedVariables false
set_option linter.unusedSimpArgs false
set_option maxRecDepth 100000
set_option maxHeartbeats 8000000
def PAr1 (H : Heap) (v : Value) (H' : Heap) : Prop := ∃ (id ho : Int) (L : List Int), v = areaV id ho H.length L.length L.length ∧ L.length ≤ 20 ∧ H' = H ++ [some ⟨L.flatMap nmE, true, 3, 1⟩]
def PArN (H : Heap) (v : Value) (H' : Heap) : Prop := ∃ (id ho x : Int) (L : List Int), v = .tuple #[areaV id ho H.length L.length L.length, .int .i64 x] ∧ L.length ≤ 20 ∧ H' = H ++ [some ⟨L.flatMap nmE, true, 3, 1⟩]
theorem endAr1 {H L : Heap} (id ho : Int) (N : List Int) (j u c : Nat) (e : u = H.length + j) (h0 : Heap.get L j = some ⟨N.flatMap nmE, true, 3, 1⟩) (hl : N.length ≤ 20) :
    EndR H (PAr1 H) (areaV id ho u N.length c) (H ++ L) := by
  subst e
  refine EndR.of (areaV id ho H.length N.length N.length) _ ⟨id, ho, N, rfl, hl, rfl⟩ (fin_list [some j] rfl ?_ (by simp -dsimp -implicitDefEqProofs (disch := omega) [go_sem, -List.getD_eq_getElem?_getD, ite_yes, sg] <;> omega))
  simp only [wkL, h0]
  exact ⟨⟨trivial, trivial, fun h => h, .inl ⟨rfl, nmE_flat _⟩⟩, trivial⟩
theorem endArN {H L : Heap} (id ho x : Int) (N : List Int) (j u c : Nat) (e : u = H.length + j) (h0 : Heap.get L j = some ⟨N.flatMap nmE, true, 3, 1⟩) (hl : N.length ≤ 20) :
    EndR H (PArN H) (.tuple #[areaV id ho u N.length c, .int .i64 x]) (H ++ L) := by
  subst e
  refine EndR.of (.tuple #[areaV id ho H.length N.length N.length, .int .i64 x]) _ ⟨id, ho, x, N, rfl, hl, rfl⟩ (fin_list [some j] rfl ?_ (by simp -dsimp -implicitDefEqProofs (disch := omega) [go_sem, -List.getD_eq_getElem?_getD, ite_yes, sg] <;> omega))
  simp only [wkL, h0]
  exact ⟨⟨trivial, trivial, fun h => h, .inl ⟨rfl, nmE_flat _⟩⟩, trivial⟩
theorem drawValidArea_R {H : Heap} {tc n : Nat} (h : Bytes H tc n) (cc : Nat) : AFunR Try.prog 42 [.slice (some ⟨tc, 0, none⟩) n cc] H (PAr1 H) := by
  refine AFunR.of_body Try.func42 (by kernel_rfl) rfl (by kernel_rfl) (by simp [Try.ntmps42]) ?_
  have ht := h.lt
  simp -dsimp -implicitDefEqProofs (disch := omega) [go_sem, -List.getD_eq_getElem?_getD, ite_yes]
  refine ACall.via (pick_R (h.curJ 1 rfl (by omega)) (by omega) 5 (by omega)) ?_
  rintro _ _ ⟨r, rfl, r0, r1, a1, s1, q1, q1', rfl⟩
  simp -dsimp -implicitDefEqProofs (disch := omega) [go_sem, -List.getD_eq_getElem?_getD, ite_yes]
  refine ACall.via (area_R (h.curJ 1 rfl (by omega)) (by omega) (1 + r)) ?_
  rintro _ _ ⟨id, ho, L, a2, s2, rfl, hl, q2, q2', rfl⟩
  simp -dsimp -implicitDefEqProofs (disch := omega) [go_sem, -List.getD_eq_getElem?_getD, ite_yes]
  exact endAr1 id ho L 2 _ _ rfl rfl hl
theorem drawMean_R {H : Heap} {tc n : Nat} (h : Bytes H tc n) (cc : Nat) : AFunR Try.prog 17 [.slice (some ⟨tc, 0, none⟩) n cc] H (PAr1 H) := by
  refine AFunR.of_body Try.func17 (by kernel_rfl) rfl (by kernel_rfl) (by simp [Try.ntmps17]) ?_
  have ht := h.lt
  simp -dsimp -implicitDefEqProofs (disch := omega) [go_sem, -List.getD_eq_getElem?_getD, ite_yes]
  refine ACall.via (drawValidArea_R (h.app _) cc) ?_
  rintro _ _ ⟨id, ho, L, rfl, hl, rfl⟩
  simp -dsimp -implicitDefEqProofs (disch := omega) [go_sem, -List.getD_eq_getElem?_getD, ite_yes]
  exact endAr1 id ho L 1 _ _ rfl rfl hl
theorem drawLossOn_R {H : Heap} {tc n : Nat} (h : Bytes H tc n) (cc : Nat) : AFunR Try.prog 5 [.slice (some ⟨tc, 0, none⟩) n cc] H (PArN H) := by
  refine AFunR.of_body Try.func5 (by kernel_rfl) rfl (by kernel_rfl) (by simp [Try.ntmps5]) ?_
  have ht := h.lt
  simp -dsimp -implicitDefEqProofs (disch := omega) [go_sem, -List.getD_eq_getElem?_getD, ite_yes]
  refine ACall.via (area_R (h.curJ 1 rfl (by omega)) (by omega) 3) ?_
  rintro _ _ ⟨id, ho, L, a2, s2, rfl, hl, q2, q2', rfl⟩
  simp -dsimp -implicitDefEqProofs (disch := omega) [go_sem, -List.getD_eq_getElem?_getD, ite_yes]
  refine ADraw.any [] (by kernel_rfl) (SubH.nil) ?_
  refine AAny.takes (fuel := 10) (by kernel_rfl) (by kernel_rfl) [1, 2, 7] (by kernel_rfl) (by kernel_rfl) ?_
  simp -dsimp -implicitDefEqProofs (disch := omega) [go_sem, -List.getD_eq_getElem?_getD, ite_yes, ht]
  refine AAny.two 9 0 3 (by kernel_rfl) (by kernel_rfl) (by kernel_rfl) ?_ ?_
  · simp -dsimp -implicitDefEqProofs (disch := omega) [go_sem, -List.getD_eq_getElem?_getD, ite_yes, ht]
    first | refine AAt.of (SubH.nil) ?_ | (refine ⟨?_, AAt.of (SubH.nil) ?_⟩; · omega)
    refine AAny.one 8 3 (by kernel_rfl) (by kernel_rfl) (by kernel_rfl) ?_
    simp -dsimp -implicitDefEqProofs (disch := omega) [go_sem, -List.getD_eq_getElem?_getD, ite_yes, ht]
    first | refine AAt.of (SubH.nil) ?_ | (refine ⟨?_, AAt.of (SubH.nil) ?_⟩; · omega)
    refine AAny.takes (fuel := 6) (by kernel_rfl) (by kernel_rfl) [4, 5] (by kernel_rfl) (by kernel_rfl) ?_
    simp -dsimp -implicitDefEqProofs (disch := omega) [go_sem, -List.getD_eq_getElem?_getD, ite_yes, ht]
    refine AAny.one 5 6 (by kernel_rfl) (by kernel_rfl) (by kernel_rfl) ?_
    simp -dsimp -implicitDefEqProofs (disch := omega) [go_sem, -List.getD_eq_getElem?_getD, ite_yes, ht]
    refine ACall.via (pick_R (h.curJ 1 rfl (by omega)) (by omega) ((L.length : Int) + 1) (by omega)) ?_
    rintro _ _ ⟨p, rfl, p0, p1, a3, s3, q3, q3', rfl⟩
    simp -dsimp -implicitDefEqProofs (disch := omega) [go_sem, -List.getD_eq_getElem?_getD, ite_yes, ht]
    first | refine AAt.of (SubH.nil) ?_ | (refine ⟨?_, AAt.of (SubH.nil) ?_⟩; · omega)
    refine AAny.one 4 8 (by kernel_rfl) (by kernel_rfl) (by kernel_rfl) ?_
    simp -dsimp -implicitDefEqProofs (disch := omega) [go_sem, -List.getD_eq_getElem?_getD, ite_yes, ht]
    refine ACall.via (pick_R (h.curJ 1 rfl (by omega)) (by omega) 16 (by omega)) ?_
    rintro _ _ ⟨w, rfl, w0, w1, a4, s4, q4, q4', rfl⟩
    have wd : Int.tdiv w 15 = w / 15 := Int.tdiv_eq_ediv_of_nonneg w0
    simp -dsimp -implicitDefEqProofs (disch := omega) [go_sem, -List.getD_eq_getElem?_getD, ite_yes, ht, wd]
    first | refine AAt.of (SubH.nil) ?_ | (refine ⟨?_, AAt.of (SubH.nil) ?_⟩; · omega)
    refine AAny.takes (fuel := 2) (by kernel_rfl) (by kernel_rfl) [9, 10] (by kernel_rfl) (by kernel_rfl) ?_
    simp -dsimp -implicitDefEqProofs (disch := omega) [go_sem, -List.getD_eq_getElem?_getD, ite_yes, ht, wd]
    refine AAny.one 1 11 (by kernel_rfl) (by kernel_rfl) (by kernel_rfl) ?_
    simp -dsimp -implicitDefEqProofs (disch := omega) [go_sem, -List.getD_eq_getElem?_getD, ite_yes, ht, wd]
    first | refine AAt.of (SubH.nil) ?_ | (refine ⟨?_, AAt.of (SubH.nil) ?_⟩; · omega)
    refine AAny.takes (fuel := 0) (by kernel_rfl) (by kernel_rfl) [12] (by kernel_rfl) (by kernel_rfl) ?_
    simp -dsimp -implicitDefEqProofs (disch := omega) [go_sem, -List.getD_eq_getElem?_getD, ite_yes, ht, wd]
    refine AAny.done (by kernel_rfl) ?_
    simp -dsimp -implicitDefEqProofs (disch := omega) [go_sem, -List.getD_eq_getElem?_getD, ite_yes, ht, wd]
    exact endArN id ho _ L 2 _ _ rfl rfl hl
  · simp -dsimp -implicitDefEqProofs (disch := omega) [go_sem, -List.getD_eq_getElem?_getD, ite_yes, ht]
    first | refine AAt.of (SubH.nil) ?_ | (refine ⟨?_, AAt.of (SubH.nil) ?_⟩; · omega)
    refine AAny.takes (fuel := 7) (by kernel_rfl) (by kernel_rfl) [4, 5] (by kernel_rfl) (by kernel_rfl) ?_
    simp -dsimp -implicitDefEqProofs (disch := omega) [go_sem, -List.getD_eq_getElem?_getD, ite_yes, ht]
    refine AAny.two 6 0 6 (by kernel_rfl) (by kernel_rfl) (by kernel_rfl) ?_ ?_
    · simp -dsimp -implicitDefEqProofs (disch := omega) [go_sem, -List.getD_eq_getElem?_getD, ite_yes, ht]
      first | refine AAt.of (SubH.nil) ?_ | (refine ⟨?_, AAt.of (SubH.nil) ?_⟩; · omega)
      refine AAny.one 5 6 (by kernel_rfl) (by kernel_rfl) (by kernel_rfl) ?_
      simp -dsimp -implicitDefEqProofs (disch := omega) [go_sem, -List.getD_eq_getElem?_getD, ite_yes, ht]
      refine ACall.via (pick_R (h.curJ 1 rfl (by omega)) (by omega) ((L.length : Int) + 1) (by omega)) ?_
      rintro _ _ ⟨p, rfl, p0, p1, a3, s3, q3, q3', rfl⟩
      simp -dsimp -implicitDefEqProofs (disch := omega) [go_sem, -List.getD_eq_getElem?_getD, ite_yes, ht]
      first | refine AAt.of (SubH.nil) ?_ | (refine ⟨?_, AAt.of (SubH.nil) ?_⟩; · omega)
      refine AAny.one 4 8 (by kernel_rfl) (by kernel_rfl) (by kernel_rfl) ?_
      simp -dsimp -implicitDefEqProofs (disch := omega) [go_sem, -List.getD_eq_getElem?_getD, ite_yes, ht]
      refine ACall.via (pick_R (h.curJ 1 rfl (by omega)) (by omega) 16 (by omega)) ?_
      rintro _ _ ⟨w, rfl, w0, w1, a4, s4, q4, q4', rfl⟩
      have wd : Int.tdiv w 15 = w / 15 := Int.tdiv_eq_ediv_of_nonneg w0
      simp -dsimp -implicitDefEqProofs (disch := omega) [go_sem, -List.getD_eq_getElem?_getD, ite_yes, ht, wd]
      first | refine AAt.of (SubH.nil) ?_ | (refine ⟨?_, AAt.of (SubH.nil) ?_⟩; · omega)
      refine AAny.takes (fuel := 2) (by kernel_rfl) (by kernel_rfl) [9, 10] (by kernel_rfl) (by kernel_rfl) ?_
      simp -dsimp -implicitDefEqProofs (disch := omega) [go_sem, -List.getD_eq_getElem?_getD, ite_yes, ht, wd]
      refine AAny.one 1 11 (by kernel_rfl) (by kernel_rfl) (by kernel_rfl) ?_
      simp -dsimp -implicitDefEqProofs (disch := omega) [go_sem, -List.getD_eq_getElem?_getD, ite_yes, ht, wd]
      first | refine AAt.of (SubH.nil) ?_ | (refine ⟨?_, AAt.of (SubH.nil) ?_⟩; · omega)
      refine AAny.takes (fuel := 0) (by kernel_rfl) (by kernel_rfl) [12] (by kernel_rfl) (by kernel_rfl) ?_
      simp -dsimp -implicitDefEqProofs (disch := omega) [go_sem, -List.getD_eq_getElem?_getD, ite_yes, ht, wd]
      refine AAny.done (by kernel_rfl) ?_
      simp -dsimp -implicitDefEqProofs (disch := omega) [go_sem, -List.getD_eq_getElem?_getD, ite_yes, ht, wd]
      exact endArN id ho _ L 2 _ _ rfl rfl hl
    · simp -dsimp -implicitDefEqProofs (disch := omega) [go_sem, -List.getD_eq_getElem?_getD, ite_yes, ht]
      refine ACall.via (pick_R (h.curJ 1 rfl (by omega)) (by omega) ((L.length : Int) + 1) (by omega)) ?_
      rintro _ _ ⟨p, rfl, p0, p1, a3, s3, q3, q3', rfl⟩
      simp -dsimp -implicitDefEqProofs (disch := omega) [go_sem, -List.getD_eq_getElem?_getD, ite_yes, ht]
      first | refine AAt.of (SubH.nil) ?_ | (refine ⟨?_, AAt.of (SubH.nil) ?_⟩; · omega)
      refine AAny.two 5 0 8 (by kernel_rfl) (by kernel_rfl) (by kernel_rfl) ?_ ?_
      · simp -dsimp -implicitDefEqProofs (disch := omega) [go_sem, -List.getD_eq_getElem?_getD, ite_yes, ht]
        first | refine AAt.of (SubH.nil) ?_ | (refine ⟨?_, AAt.of (SubH.nil) ?_⟩; · omega)
        refine AAny.one 4 8 (by kernel_rfl) (by kernel_rfl) (by kernel_rfl) ?_
        simp -dsimp -implicitDefEqProofs (disch := omega) [go_sem, -List.getD_eq_getElem?_getD, ite_yes, ht]
        refine ACall.via (pick_R (h.curJ 1 rfl (by omega)) (by omega) 16 (by omega)) ?_
        rintro _ _ ⟨w, rfl, w0, w1, a4, s4, q4, q4', rfl⟩
        have wd : Int.tdiv w 15 = w / 15 := Int.tdiv_eq_ediv_of_nonneg w0
        simp -dsimp -implicitDefEqProofs (disch := omega) [go_sem, -List.getD_eq_getElem?_getD, ite_yes, ht, wd]
        first | refine AAt.of (SubH.nil) ?_ | (refine ⟨?_, AAt.of (SubH.nil) ?_⟩; · omega)
        refine AAny.takes (fuel := 2) (by kernel_rfl) (by kernel_rfl) [9, 10] (by kernel_rfl) (by kernel_rfl) ?_
        simp -dsimp -implicitDefEqProofs (disch := omega) [go_sem, -List.getD_eq_getElem?_getD, ite_yes, ht, wd]
        refine AAny.one 1 11 (by kernel_rfl) (by kernel_rfl) (by kernel_rfl) ?_
        simp -dsimp -implicitDefEqProofs (disch := omega) [go_sem, -List.getD_eq_getElem?_getD, ite_yes, ht, wd]
        first | refine AAt.of (SubH.nil) ?_ | (refine ⟨?_, AAt.of (SubH.nil) ?_⟩; · omega)
        refine AAny.takes (fuel := 0) (by kernel_rfl) (by kernel_rfl) [12] (by kernel_rfl) (by kernel_rfl) ?_
        simp -dsimp -implicitDefEqProofs (disch := omega) [go_sem, -List.getD_eq_getElem?_getD, ite_yes, ht, wd]
        refine AAny.done (by kernel_rfl) ?_
        simp -dsimp -implicitDefEqProofs (disch := omega) [go_sem, -List.getD_eq_getElem?_getD, ite_yes, ht, wd]
        exact endArN id ho _ L 2 _ _ rfl rfl hl
      · simp -dsimp -implicitDefEqProofs (disch := omega) [go_sem, -List.getD_eq_getElem?_getD, ite_yes, ht]
        refine ACall.via (pick_R (h.curJ 1 rfl (by omega)) (by omega) 16 (by omega)) ?_
        rintro _ _ ⟨w, rfl, w0, w1, a4, s4, q4, q4', rfl⟩
        have wd : Int.tdiv w 15 = w / 15 := Int.tdiv_eq_ediv_of_nonneg w0
        simp -dsimp -implicitDefEqProofs (disch := omega) [go_sem, -List.getD_eq_getElem?_getD, ite_yes, ht, wd]
        first | refine AAt.of (SubH.nil) ?_ | (refine ⟨?_, AAt.of (SubH.nil) ?_⟩; · omega)
        refine AAny.takes (fuel := 3) (by kernel_rfl) (by kernel_rfl) [9, 10] (by kernel_rfl) (by kernel_rfl) ?_
        simp -dsimp -implicitDefEqProofs (disch := omega) [go_sem, -List.getD_eq_getElem?_getD, ite_yes, ht, wd]
        refine AAny.one 2 0 (by kernel_rfl) (by kernel_rfl) (by kernel_rfl) ?_
        simp -dsimp -implicitDefEqProofs (disch := omega) [go_sem, -List.getD_eq_getElem?_getD, ite_yes, ht, wd]
        first | refine AAt.of (SubH.nil) ?_ | (refine ⟨?_, AAt.of (SubH.nil) ?_⟩; · omega)
        refine AAny.one 1 11 (by kernel_rfl) (by kernel_rfl) (by kernel_rfl) ?_
        simp -dsimp -implicitDefEqProofs (disch := omega) [go_sem, -List.getD_eq_getElem?_getD, ite_yes, ht, wd]
        first | refine AAt.of (SubH.nil) ?_ | (refine ⟨?_, AAt.of (SubH.nil) ?_⟩; · omega)
        refine AAny.takes (fuel := 0) (by kernel_rfl) (by kernel_rfl) [12] (by kernel_rfl) (by kernel_rfl) ?_
        simp -dsimp -implicitDefEqProofs (disch := omega) [go_sem, -List.getD_eq_getElem?_getD, ite_yes, ht, wd]
        refine AAny.done (by kernel_rfl) ?_
        simp -dsimp -implicitDefEqProofs (disch := omega) [go_sem, -List.getD_eq_getElem?_getD, ite_yes, ht, wd]
        exact endArN id ho _ L 2 _ _ rfl rfl hl
end Go.Proofs.Yteojpgmclplggaa
