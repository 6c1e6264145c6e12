/- Alarms out of texts: both sides, and the law. -/
import Derived.Test.YthnnbgggfpempaaDoorTxAl
import Derived.Test.YthnnbgggfpempaaDoorSplit
import Derived.Test.YthnnbgggfpempaaDoorRead
import Derived.Test.YthnnbgggfpempaaDoorNums
import Derived.Test.YthnnbgggfpempaaDoorAffix
namespace Go.Proofs.YthnnbgggfpempaaDoor
open Go.Am Go.Lib
set_option linter.unusedVariables false
set_option linter.unusedSimpArgs false
set_option maxRecDepth 100000
set_option maxHeartbeats 2000000
/-! ### The plain part -/
theorem itoa_natA (n : Nat) : itoa (n : Int) = decDigits n := by rw [itoa, if_neg (by omega), Int.toNat_natCast]
theorem isDg_litA {b : UInt8} (h : isDg b = false) {w : List UInt8} (hw : ∀ x ∈ w, isDg x = true) : ∀ x ∈ w, x ≠ b := fun x hx e => by
  rw [e] at hx
  rw [hw b hx] at h; cases h
theorem alNat {r : Al} (h : isAl r = true) : ∃ d c : Nat, r = ((d : Int), r.2.1, (c : Int), r.2.2.2) ∧ d ≤ 8 ∧ c ≤ 9999 ∧ (r.2.1 = 1 ∨ r.2.1 = 2) := by
  obtain ⟨h0, h1, h2, h3, h4, h5⟩ := isAl_at h
  refine ⟨r.1.toNat, r.2.2.1.toNat, ?_, by omega, by omega, by omega⟩
  obtain ⟨a, b, c, d⟩ := r
  simp only at *
  rw [show ((a.toNat : Nat) : Int) = a by omega, show ((c.toNat : Nat) : Int) = c by omega]
def seenT (b : Bool) : List UInt8 := if b = true then [32, 115, 101, 101, 110] else []
theorem alText_nat (d c : Nat) (k : Int) (b : Bool) : alText ((d : Int), k, (c : Int), b) = (kindT k ++ [32, 97, 116, 32]) ++ (decDigits d ++ 32 :: ([115, 105, 110, 99, 101, 32] ++ (decDigits c ++ seenT b))) := by
  simp [alText, itoa_natA, seenT]
theorem kindT_no (k : Int) : ∀ b ∈ kindT k ++ [32, 97, 116, 32], isDg b = false := by
  unfold kindT
  split <;> decide
theorem seenT_nums (b : Bool) : numsOf 1 ((seenT b).drop 1) = [] := by
  cases b
  · simp [seenT, numsOf_nil]
  · have := numsOf_skip (m := 0) (w := [115, 101, 101, 110]) (l := []) (by decide)
    rw [List.append_nil] at this
    show numsOf 1 [115, 101, 101, 110] = []
    rw [this, numsOf_nil]
theorem alText_len {r : Al} (h : isAl r = true) : (alText r).length ≤ 40 := by
  obtain ⟨d, c, e, h1, h2, h3⟩ := alNat h
  rw [e]
  have l1 := dec_len_le (k := 0) (n := d) (by omega)
  have l2 := dec_len_le (k := 3) (n := c) (by omega)
  rw [alText_nat]
  have l3 : (kindT r.2.1).length ≤ 4 := by unfold kindT; split <;> simp
  have l4 : (seenT r.2.2.2).length ≤ 5 := by unfold seenT; split <;> simp
  simp only [List.length_append, List.length_cons, List.length_nil]
  omega
theorem al_nums {r : Al} (h : isAl r = true) : numsI 3 (alText r) = [r.1, r.2.2.1] := by
  obtain ⟨d, c, e, h1, h2, h3⟩ := alNat h
  have l1 := dec_len_le (k := 0) (n := d) (by omega)
  have l2 := dec_len_le (k := 3) (n := c) (by omega)
  have e1 : numsOf 3 (alText ((d : Int), r.2.1, (c : Int), r.2.2.2)) = [d, c] := by
    rw [alText_nat, numsOf_skip (kindT_no _), numsOf_word (dec_all d) (dec_ne d) (by omega) (fun b r e => by cases e; decide), worth_dec, List.drop_one, List.tail_cons,
      numsOf_skip (by decide), numsOf_word (dec_all c) (dec_ne c) (by omega) (fun b q e => by unfold seenT at e; split at e <;> cases e; decide), worth_dec, seenT_nums]
  rw [e, numsI, e1]; rfl
theorem al_sfx {r : Al} (h : isAl r = true) : sfx [32, 115, 101, 101, 110] (alText r) = r.2.2.2 := by
  obtain ⟨d, c, e, h1, h2, h3⟩ := alNat h
  rw [e]
  simp only
  rw [alText_nat]
  cases r.2.2.2
  · obtain ⟨u, x, hx⟩ : ∃ u x, decDigits c = u ++ [x] := by
      rcases List.eq_nil_or_concat (decDigits c) with h | ⟨u, x, h⟩
      · exact absurd h (dec_ne c)
      · exact ⟨u, x, by rw [h]; simp⟩
    have hd : isDg x = true := dec_all c x (by rw [hx]; simp)
    have hl : (kindT r.2.1 ++ [32, 97, 116, 32]) ++ (decDigits d ++ 32 :: ([115, 105, 110, 99, 101, 32] ++ (decDigits c ++ seenT false))) = ((kindT r.2.1 ++ [32, 97, 116, 32]) ++ (decDigits d ++ 32 :: ([115, 105, 110, 99, 101, 32] ++ u))) ++ [x] := by
      rw [hx]; simp [seenT]
    rw [hl]
    exact sfx_no (b := 110) rfl (fun e => by rw [← e] at hd; revert hd; decide)
  · have hl : (kindT r.2.1 ++ [32, 97, 116, 32]) ++ (decDigits d ++ 32 :: ([115, 105, 110, 99, 101, 32] ++ (decDigits c ++ seenT true))) = ((kindT r.2.1 ++ [32, 97, 116, 32]) ++ (decDigits d ++ 32 :: ([115, 105, 110, 99, 101, 32] ++ decDigits c))) ++ [32, 115, 101, 101, 110] := by
      simp [seenT]
    rw [hl]
    exact sfx_app _ _
theorem al_pfx {r : Al} (h : isAl r = true) : (if pfx [108, 111, 119] (alText r) = true then 1 else 2) = r.2.1 := by
  obtain ⟨d, c, e, h1, h2, h3⟩ := alNat h
  rw [e]
  simp only
  rw [alText_nat]
  rcases h3 with h3 | h3
  · rw [h3]
    have : pfx [108, 111, 119] ((kindT 1 ++ [32, 97, 116, 32]) ++ (decDigits d ++ 32 :: ([115, 105, 110, 99, 101, 32] ++ (decDigits c ++ seenT r.2.2.2)))) = true := by
      rw [show kindT 1 = [108, 111, 119] from rfl, List.append_assoc]
      exact pfx_app _ _
    rw [if_pos this]
  · rw [h3]
    have : pfx [108, 111, 119] ((kindT 2 ++ [32, 97, 116, 32]) ++ (decDigits d ++ 32 :: ([115, 105, 110, 99, 101, 32] ++ (decDigits c ++ seenT r.2.2.2)))) = false := by
      rw [show kindT 2 = [104, 105, 103, 104] from rfl]
      simp [pfx]
    rw [if_neg (by rw [this]; simp)]
theorem al_split {r : Al} (h : isAl r = true) : splitB 32 (alText r) = [kindT r.2.1, [97, 116], itoa r.1, [115, 105, 110, 99, 101], itoa r.2.2.1] ++ (if r.2.2.2 = true then [[115, 101, 101, 110]] else []) := by
  obtain ⟨d, c, e, h1, h2, h3⟩ := alNat h
  have n1 := isDg_litA (b := 32) (by decide) (dec_all d)
  have n2 := isDg_litA (b := 32) (by decide) (dec_all c)
  rw [e]
  simp only [itoa_natA]
  have hk : ∀ x ∈ kindT r.2.1, x ≠ 32 := by unfold kindT; split <;> decide
  cases r.2.2.2
  · have el : alText ((d : Int), r.2.1, (c : Int), false) = kindT r.2.1 ++ 32 :: ([97, 116] ++ 32 :: (decDigits d ++ 32 :: ([115, 105, 110, 99, 101] ++ 32 :: decDigits c))) := by simp [alText, itoa_natA]
    rw [el, splitB_word hk, splitB_word (by decide), splitB_word n1, splitB_word (by decide), splitB_last n2]
    rfl
  · have el : alText ((d : Int), r.2.1, (c : Int), true) = kindT r.2.1 ++ 32 :: ([97, 116] ++ 32 :: (decDigits d ++ 32 :: ([115, 105, 110, 99, 101] ++ 32 :: (decDigits c ++ 32 :: [115, 101, 101, 110])))) := by simp [alText, itoa_natA]
    rw [el, splitB_word hk, splitB_word (by decide), splitB_word n1, splitB_word (by decide), splitB_word n2, splitB_last (by decide)]
    rfl
theorem al_ext {r q : Al} (h1 : r.1 = q.1) (h2 : r.2.1 = q.2.1) (h3 : r.2.2.1 = q.2.2.1) (h4 : r.2.2.2 = q.2.2.2) : r = q := Prod.ext h1 (Prod.ext h2 (Prod.ext h3 h4))
open Classical in
/-- the alarm whose text this is, if there is one -/
noncomputable def parAl (l : List UInt8) : Al × Bool := if h : ∃ r, isAl r = true ∧ alText r = l then (h.choose, true) else ((0, 0, 0, false), false)
theorem parAl_no {l : List UInt8} (h : ∀ r, isAl r = true → alText r ≠ l) : parAl l = ((0, 0, 0, false), false) := by
  rw [parAl, dif_neg]
  rintro ⟨r, h1, h2⟩
  exact h r h1 h2
theorem al_inj {r q : Al} (h : isAl r = true) (h1 : isAl q = true) (e : alText r = alText q) : r = q := by
  have e1 := al_nums h
  have e2 := al_nums h1
  have e3 := al_sfx h
  have e4 := al_pfx h
  rw [e] at e1 e3 e4
  rw [e1] at e2
  rw [al_sfx h1] at e3
  rw [al_pfx h1] at e4
  simp at e2
  exact al_ext e2.1 e4.symm e2.2 e3.symm
theorem parAl_yes {r : Al} {l : List UInt8} (h : isAl r = true) (hl : alText r = l) : parAl l = (r, true) := by
  have hex : ∃ r, isAl r = true ∧ alText r = l := ⟨r, h, hl⟩
  rw [parAl, dif_pos hex]
  rw [al_inj hex.choose_spec.1 h (hex.choose_spec.2.trans hl.symm)]
/-! ### The walks -/
theorem iParAl_A (l : List UInt8) (hl : l.length ≤ 1048577) (H : Heap) : AFunC Tryd.prog 44 [.string (bs l)] H (.tuple #[.agg #[.int .i64 (parAl l).1.1, .int .i64 (parAl l).1.2.1, .int .i64 (parAl l).1.2.2.1, .bool (parAl l).1.2.2.2], .bool (parAl l).2]) H := by
  refine AFunC.of_body Tryd.func44 (by kernel_rfl) rfl (by kernel_rfl) (by simp [Tryd.ntmps44]) ?_
  have lf := nmE_length (numsI 3 l)
  simp -dsimp -implicitDefEqProofs (disch := omega) [go_sem, -List.getD_eq_getElem?_getD, ite_yes]
  refine ACall.of (numbersOf_A l hl 3 (by omega) _) ?_
  by_cases h20 : 40 < l.length
  · have h20i : (40 : Int) < (l.length : Int) := by omega
    simp -dsimp -implicitDefEqProofs (disch := omega) [go_sem, -List.getD_eq_getElem?_getD, ite_yes, h20, h20i]
    exact fin_flat rfl (by rw [parAl_no fun r hr e => by have := alText_len hr; rw [e] at this; omega])
  have h20i : ¬ (40 : Int) < (l.length : Int) := by omega
  by_cases h2 : (numsI 3 l).length = 2
  rotate_left
  · have h2i : ¬ ((numsI 3 l).length : Int) = 2 := by omega
    simp -dsimp -implicitDefEqProofs (disch := omega) [go_sem, -List.getD_eq_getElem?_getD, ite_yes, h20, h20i, h2, h2i]
    exact fin_flat rfl (by rw [parAl_no fun r hr e => by have := al_nums hr; rw [e] at this; rw [this] at h2; simp at h2])
  obtain ⟨a, b, hab⟩ : ∃ a b, numsI 3 l = [a, b] := by
    match hq : numsI 3 l, h2 with
    | [a, b], _ => exact ⟨a, b, rfl⟩
  have key : ∀ r, isAl r = true → alText r = l → r = (a, (if pfx [108, 111, 119] l = true then 1 else 2), b, sfx [32, 115, 101, 101, 110] l) := fun r hr e => by
    have h1 := al_nums hr
    have h3 := al_sfx hr
    have h4 := al_pfx hr
    rw [e] at h1 h3 h4
    rw [hab] at h1
    simp at h1
    exact al_ext h1.1.symm h4.symm h1.2.symm h3.symm
  rw [hab]
  simp -dsimp -implicitDefEqProofs (disch := omega) [go_sem, -List.getD_eq_getElem?_getD, ite_yes, h20, h20i, nmE]
  refine ADraw.any _ (by kernel_rfl) (SubH.refl) ?_
  refine AAny.takes (fuel := 4) (by kernel_rfl) (by kernel_rfl) [0, 1, 2, 3, 4, 5, 6] (by kernel_rfl) (by kernel_rfl) ?_
  simp -dsimp -implicitDefEqProofs (disch := omega) [go_sem, -List.getD_eq_getElem?_getD, ite_yes, nmE]
  refine AAny.two 3 7 9 (by kernel_rfl) (by kernel_rfl) (by kernel_rfl) ?_ ?_
  · simp -dsimp -implicitDefEqProofs (disch := omega) [go_sem, -List.getD_eq_getElem?_getD, ite_yes, nmE]
    refine ACall.of (hasSuffix_A l [32, 115, 101, 101, 110] (by omega) (by simp) _) ?_
    simp -dsimp -implicitDefEqProofs (disch := omega) [go_sem, -List.getD_eq_getElem?_getD, ite_yes, nmE]
    first | refine AAt.of (by first | exact SubH.refl | exact SubH.app | exact SubH.both (by simp [subL])) ?_ | (refine ⟨?_, AAt.of (by first | exact SubH.refl | exact SubH.app | exact SubH.both (by simp [subL])) ?_⟩; · omega)
    refine AAny.two 2 8 9 (by kernel_rfl) (by kernel_rfl) (by kernel_rfl) ?_ ?_
    · simp -dsimp -implicitDefEqProofs (disch := omega) [go_sem, -List.getD_eq_getElem?_getD, ite_yes, nmE]
      first | refine AAt.of (by first | exact SubH.refl | exact SubH.app | exact SubH.both (by simp [subL])) ?_ | (refine ⟨?_, AAt.of (by first | exact SubH.refl | exact SubH.app | exact SubH.both (by simp [subL])) ?_⟩; · omega)
      refine AAny.one 1 9 (by kernel_rfl) (by kernel_rfl) (by kernel_rfl) ?_
      simp -dsimp -implicitDefEqProofs (disch := omega) [go_sem, -List.getD_eq_getElem?_getD, ite_yes, nmE]
      first | refine AAt.of (by first | exact SubH.refl | exact SubH.app | exact SubH.both (by simp [subL])) ?_ | (refine ⟨?_, AAt.of (by first | exact SubH.refl | exact SubH.app | exact SubH.both (by simp [subL])) ?_⟩; · omega)
      refine AAny.one 0 10 (by kernel_rfl) (by kernel_rfl) (by kernel_rfl) ?_
      simp -dsimp -implicitDefEqProofs (disch := omega) [go_sem, -List.getD_eq_getElem?_getD, ite_yes, nmE]
      first | refine AAt.of (by first | exact SubH.refl | exact SubH.app | exact SubH.both (by simp [subL])) ?_ | (refine ⟨?_, AAt.of (by first | exact SubH.refl | exact SubH.app | exact SubH.both (by simp [subL])) ?_⟩; · omega)
      refine AAny.done (by kernel_rfl) ?_
      simp -dsimp -implicitDefEqProofs (disch := omega) [go_sem, -List.getD_eq_getElem?_getD, ite_yes, nmE]
      refine ACall.of (hasPrefix_A l [108, 111, 119] (by omega) (by simp) _) ?_
      cases hp : pfx [108, 111, 119] l
      · rw [hp] at key
        simp only [Bool.false_eq_true, if_false] at key
        have hpk := hp
        generalize sfx [32, 115, 101, 101, 110] l = seen at key
        simp -dsimp -implicitDefEqProofs (disch := omega) [go_sem, -List.getD_eq_getElem?_getD, ite_yes, hp, hpk]
        refine ACall.of (isAlarm_A (a, 2, b, seen) _) ?_
        cases hr : isAl (a, 2, b, seen)
        · simp -dsimp -implicitDefEqProofs (disch := omega) [go_sem, -List.getD_eq_getElem?_getD, ite_yes]
          exact fin_flat rfl (by rw [parAl_no fun r hr' e => by rw [key r hr' e, hr] at hr'; cases hr'])
        · simp -dsimp -implicitDefEqProofs (disch := omega) [go_sem, -List.getD_eq_getElem?_getD, ite_yes]
          refine ACall.of (alarmText_A (a, 2, b, seen) hr _) ?_
          by_cases ht : alText (a, 2, b, seen) = l
          · simp -dsimp -implicitDefEqProofs (disch := omega) [go_sem, -List.getD_eq_getElem?_getD, ite_yes, ht]
            exact fin_flat rfl (by rw [parAl_yes hr ht])
          · have htb := beq_false_of_ne ht
            simp -dsimp -implicitDefEqProofs (disch := omega) [go_sem, -List.getD_eq_getElem?_getD, ite_yes, ht, htb]
            exact fin_flat rfl (by rw [parAl_no fun r hr' e => by rw [key r hr' e] at e; exact ht e])
      · rw [hp] at key
        simp only [if_true] at key
        have hpk := hp
        generalize sfx [32, 115, 101, 101, 110] l = seen at key
        simp -dsimp -implicitDefEqProofs (disch := omega) [go_sem, -List.getD_eq_getElem?_getD, ite_yes, hp, hpk]
        refine ACall.of (isAlarm_A (a, 1, b, seen) _) ?_
        cases hr : isAl (a, 1, b, seen)
        · simp -dsimp -implicitDefEqProofs (disch := omega) [go_sem, -List.getD_eq_getElem?_getD, ite_yes]
          exact fin_flat rfl (by rw [parAl_no fun r hr' e => by rw [key r hr' e, hr] at hr'; cases hr'])
        · simp -dsimp -implicitDefEqProofs (disch := omega) [go_sem, -List.getD_eq_getElem?_getD, ite_yes]
          refine ACall.of (alarmText_A (a, 1, b, seen) hr _) ?_
          by_cases ht : alText (a, 1, b, seen) = l
          · simp -dsimp -implicitDefEqProofs (disch := omega) [go_sem, -List.getD_eq_getElem?_getD, ite_yes, ht]
            exact fin_flat rfl (by rw [parAl_yes hr ht])
          · have htb := beq_false_of_ne ht
            simp -dsimp -implicitDefEqProofs (disch := omega) [go_sem, -List.getD_eq_getElem?_getD, ite_yes, ht, htb]
            exact fin_flat rfl (by rw [parAl_no fun r hr' e => by rw [key r hr' e] at e; exact ht e])
    · simp -dsimp -implicitDefEqProofs (disch := omega) [go_sem, -List.getD_eq_getElem?_getD, ite_yes, nmE]
      first | refine AAt.of (by first | exact SubH.refl | exact SubH.app | exact SubH.both (by simp [subL])) ?_ | (refine ⟨?_, AAt.of (by first | exact SubH.refl | exact SubH.app | exact SubH.both (by simp [subL])) ?_⟩; · omega)
      refine AAny.one 1 8 (by kernel_rfl) (by kernel_rfl) (by kernel_rfl) ?_
      simp -dsimp -implicitDefEqProofs (disch := omega) [go_sem, -List.getD_eq_getElem?_getD, ite_yes, nmE]
      first | refine AAt.of (by first | exact SubH.refl | exact SubH.app | exact SubH.both (by simp [subL])) ?_ | (refine ⟨?_, AAt.of (by first | exact SubH.refl | exact SubH.app | exact SubH.both (by simp [subL])) ?_⟩; · omega)
      refine AAny.one 0 10 (by kernel_rfl) (by kernel_rfl) (by kernel_rfl) ?_
      simp -dsimp -implicitDefEqProofs (disch := omega) [go_sem, -List.getD_eq_getElem?_getD, ite_yes, nmE]
      first | refine AAt.of (by first | exact SubH.refl | exact SubH.app | exact SubH.both (by simp [subL])) ?_ | (refine ⟨?_, AAt.of (by first | exact SubH.refl | exact SubH.app | exact SubH.both (by simp [subL])) ?_⟩; · omega)
      refine AAny.done (by kernel_rfl) ?_
      simp -dsimp -implicitDefEqProofs (disch := omega) [go_sem, -List.getD_eq_getElem?_getD, ite_yes, nmE]
      refine ACall.of (hasPrefix_A l [108, 111, 119] (by omega) (by simp) _) ?_
      cases hp : pfx [108, 111, 119] l
      · rw [hp] at key
        simp only [Bool.false_eq_true, if_false] at key
        have hpk := hp
        generalize sfx [32, 115, 101, 101, 110] l = seen at key
        simp -dsimp -implicitDefEqProofs (disch := omega) [go_sem, -List.getD_eq_getElem?_getD, ite_yes, hp, hpk]
        refine ACall.of (isAlarm_A (a, 2, b, seen) _) ?_
        cases hr : isAl (a, 2, b, seen)
        · simp -dsimp -implicitDefEqProofs (disch := omega) [go_sem, -List.getD_eq_getElem?_getD, ite_yes]
          exact fin_flat rfl (by rw [parAl_no fun r hr' e => by rw [key r hr' e, hr] at hr'; cases hr'])
        · simp -dsimp -implicitDefEqProofs (disch := omega) [go_sem, -List.getD_eq_getElem?_getD, ite_yes]
          refine ACall.of (alarmText_A (a, 2, b, seen) hr _) ?_
          by_cases ht : alText (a, 2, b, seen) = l
          · simp -dsimp -implicitDefEqProofs (disch := omega) [go_sem, -List.getD_eq_getElem?_getD, ite_yes, ht]
            exact fin_flat rfl (by rw [parAl_yes hr ht])
          · have htb := beq_false_of_ne ht
            simp -dsimp -implicitDefEqProofs (disch := omega) [go_sem, -List.getD_eq_getElem?_getD, ite_yes, ht, htb]
            exact fin_flat rfl (by rw [parAl_no fun r hr' e => by rw [key r hr' e] at e; exact ht e])
      · rw [hp] at key
        simp only [if_true] at key
        have hpk := hp
        generalize sfx [32, 115, 101, 101, 110] l = seen at key
        simp -dsimp -implicitDefEqProofs (disch := omega) [go_sem, -List.getD_eq_getElem?_getD, ite_yes, hp, hpk]
        refine ACall.of (isAlarm_A (a, 1, b, seen) _) ?_
        cases hr : isAl (a, 1, b, seen)
        · simp -dsimp -implicitDefEqProofs (disch := omega) [go_sem, -List.getD_eq_getElem?_getD, ite_yes]
          exact fin_flat rfl (by rw [parAl_no fun r hr' e => by rw [key r hr' e, hr] at hr'; cases hr'])
        · simp -dsimp -implicitDefEqProofs (disch := omega) [go_sem, -List.getD_eq_getElem?_getD, ite_yes]
          refine ACall.of (alarmText_A (a, 1, b, seen) hr _) ?_
          by_cases ht : alText (a, 1, b, seen) = l
          · simp -dsimp -implicitDefEqProofs (disch := omega) [go_sem, -List.getD_eq_getElem?_getD, ite_yes, ht]
            exact fin_flat rfl (by rw [parAl_yes hr ht])
          · have htb := beq_false_of_ne ht
            simp -dsimp -implicitDefEqProofs (disch := omega) [go_sem, -List.getD_eq_getElem?_getD, ite_yes, ht, htb]
            exact fin_flat rfl (by rw [parAl_no fun r hr' e => by rw [key r hr' e] at e; exact ht e])
  · simp -dsimp -implicitDefEqProofs (disch := omega) [go_sem, -List.getD_eq_getElem?_getD, ite_yes, nmE]
    first | refine AAt.of (by first | exact SubH.refl | exact SubH.app | exact SubH.both (by simp [subL])) ?_ | (refine ⟨?_, AAt.of (by first | exact SubH.refl | exact SubH.app | exact SubH.both (by simp [subL])) ?_⟩; · omega)
    refine AAny.one 2 7 (by kernel_rfl) (by kernel_rfl) (by kernel_rfl) ?_
    simp -dsimp -implicitDefEqProofs (disch := omega) [go_sem, -List.getD_eq_getElem?_getD, ite_yes, nmE]
    refine ACall.of (hasSuffix_A l [32, 115, 101, 101, 110] (by omega) (by simp) _) ?_
    simp -dsimp -implicitDefEqProofs (disch := omega) [go_sem, -List.getD_eq_getElem?_getD, ite_yes, nmE]
    first | refine AAt.of (by first | exact SubH.refl | exact SubH.app | exact SubH.both (by simp [subL])) ?_ | (refine ⟨?_, AAt.of (by first | exact SubH.refl | exact SubH.app | exact SubH.both (by simp [subL])) ?_⟩; · omega)
    refine AAny.one 1 8 (by kernel_rfl) (by kernel_rfl) (by kernel_rfl) ?_
    simp -dsimp -implicitDefEqProofs (disch := omega) [go_sem, -List.getD_eq_getElem?_getD, ite_yes, nmE]
    first | refine AAt.of (by first | exact SubH.refl | exact SubH.app | exact SubH.both (by simp [subL])) ?_ | (refine ⟨?_, AAt.of (by first | exact SubH.refl | exact SubH.app | exact SubH.both (by simp [subL])) ?_⟩; · omega)
    refine AAny.one 0 10 (by kernel_rfl) (by kernel_rfl) (by kernel_rfl) ?_
    simp -dsimp -implicitDefEqProofs (disch := omega) [go_sem, -List.getD_eq_getElem?_getD, ite_yes, nmE]
    first | refine AAt.of (by first | exact SubH.refl | exact SubH.app | exact SubH.both (by simp [subL])) ?_ | (refine ⟨?_, AAt.of (by first | exact SubH.refl | exact SubH.app | exact SubH.both (by simp [subL])) ?_⟩; · omega)
    refine AAny.done (by kernel_rfl) ?_
    simp -dsimp -implicitDefEqProofs (disch := omega) [go_sem, -List.getD_eq_getElem?_getD, ite_yes, nmE]
    refine ACall.of (hasPrefix_A l [108, 111, 119] (by omega) (by simp) _) ?_
    cases hp : pfx [108, 111, 119] l
    · rw [hp] at key
      simp only [Bool.false_eq_true, if_false] at key
      have hpk := hp
      generalize sfx [32, 115, 101, 101, 110] l = seen at key
      simp -dsimp -implicitDefEqProofs (disch := omega) [go_sem, -List.getD_eq_getElem?_getD, ite_yes, hp, hpk]
      refine ACall.of (isAlarm_A (a, 2, b, seen) _) ?_
      cases hr : isAl (a, 2, b, seen)
      · simp -dsimp -implicitDefEqProofs (disch := omega) [go_sem, -List.getD_eq_getElem?_getD, ite_yes]
        exact fin_flat rfl (by rw [parAl_no fun r hr' e => by rw [key r hr' e, hr] at hr'; cases hr'])
      · simp -dsimp -implicitDefEqProofs (disch := omega) [go_sem, -List.getD_eq_getElem?_getD, ite_yes]
        refine ACall.of (alarmText_A (a, 2, b, seen) hr _) ?_
        by_cases ht : alText (a, 2, b, seen) = l
        · simp -dsimp -implicitDefEqProofs (disch := omega) [go_sem, -List.getD_eq_getElem?_getD, ite_yes, ht]
          exact fin_flat rfl (by rw [parAl_yes hr ht])
        · have htb := beq_false_of_ne ht
          simp -dsimp -implicitDefEqProofs (disch := omega) [go_sem, -List.getD_eq_getElem?_getD, ite_yes, ht, htb]
          exact fin_flat rfl (by rw [parAl_no fun r hr' e => by rw [key r hr' e] at e; exact ht e])
    · rw [hp] at key
      simp only [if_true] at key
      have hpk := hp
      generalize sfx [32, 115, 101, 101, 110] l = seen at key
      simp -dsimp -implicitDefEqProofs (disch := omega) [go_sem, -List.getD_eq_getElem?_getD, ite_yes, hp, hpk]
      refine ACall.of (isAlarm_A (a, 1, b, seen) _) ?_
      cases hr : isAl (a, 1, b, seen)
      · simp -dsimp -implicitDefEqProofs (disch := omega) [go_sem, -List.getD_eq_getElem?_getD, ite_yes]
        exact fin_flat rfl (by rw [parAl_no fun r hr' e => by rw [key r hr' e, hr] at hr'; cases hr'])
      · simp -dsimp -implicitDefEqProofs (disch := omega) [go_sem, -List.getD_eq_getElem?_getD, ite_yes]
        refine ACall.of (alarmText_A (a, 1, b, seen) hr _) ?_
        by_cases ht : alText (a, 1, b, seen) = l
        · simp -dsimp -implicitDefEqProofs (disch := omega) [go_sem, -List.getD_eq_getElem?_getD, ite_yes, ht]
          exact fin_flat rfl (by rw [parAl_yes hr ht])
        · have htb := beq_false_of_ne ht
          simp -dsimp -implicitDefEqProofs (disch := omega) [go_sem, -List.getD_eq_getElem?_getD, ite_yes, ht, htb]
          exact fin_flat rfl (by rw [parAl_no fun r hr' e => by rw [key r hr' e] at e; exact ht e])
end Go.Proofs.YthnnbgggfpempaaDoor
