/- Bills and their texts: the plain part. -/
import Derived.Test.YthnnbgggfpempaaDoorTxBl
import Derived.Test.YthnnbgggfpempaaDoorEurN
import Derived.Test.YthnnbgggfpempaaDoorFst
import Derived.Test.YthnnbgggfpempaaDoorAffix
import Derived.Lib.IndexMore
namespace Go.Proofs.YthnnbgggfpempaaDoor
open Go.Am Go.Lib
set_option linter.unusedVariables false
set_option linter.unusedSimpArgs false
set_option maxRecDepth 100000
theorem itoa_natB (n : Nat) : itoa (n : Int) = decDigits n := by rw [itoa, if_neg (by omega), Int.toNat_natCast]
/-- what is behind the first instance, and whether there is one -/
def cr (l m : List UInt8) : List UInt8 × Bool := (Lib.cut l m).2
theorem cr_hit {l m : List UInt8} (h : m.isPrefixOf l = true) : cr l m = (l.drop m.length, true) := by
  have e : Lib.index l m = 0 := by
    cases l with
    | nil => cases m with
      | nil => rfl
      | cons a t => cases h
    | cons b l => rw [Lib.index, if_pos h]
  rw [cr, Lib.cut, e]
  simp
theorem cr_app (m l : List UInt8) : cr (m ++ l) m = (l, true) := by
  rw [cr_hit (List.isPrefixOf_iff_prefix.2 (List.prefix_append m l)), List.drop_left]
theorem cr_skip {b : UInt8} {l m : List UInt8} (h : m.isPrefixOf (b :: l) = false) : cr (b :: l) m = cr l m := by
  rw [cr, cr, Lib.cut, Lib.cut, Lib.index, h]
  simp only [Bool.false_eq_true, if_false]
  have hge := Lib.index_ge l m
  by_cases h1 : Lib.index l m = -1
  · rw [h1]; simp
  · have h2 : (Lib.index l m == -1) = false := by simpa using h1
    rw [h2]
    simp only [Bool.false_eq_true, if_false]
    rw [if_pos (by omega), if_pos (by omega), show (Lib.index l m + 1).toNat = (Lib.index l m).toNat + 1 by omega]
    simp only [Prod.mk.injEq, and_true]
    rw [show (Lib.index l m).toNat + 1 + m.length = ((Lib.index l m).toNat + m.length) + 1 by omega, List.drop_succ_cons]
theorem cr_nil {c : UInt8} {m : List UInt8} : cr [] (c :: m) = ([], false) := by
  rw [cr, Lib.cut, Lib.index]; simp
theorem cr_word {c : UInt8} {m : List UInt8} : ∀ {w l : List UInt8}, (∀ x ∈ w, x ≠ c) → cr (w ++ l) (c :: m) = cr l (c :: m)
  | [], _, _ => rfl
  | b :: w, l, h => by
    rw [List.cons_append, cr_skip (by
      have := h b (by simp)
      simp only [List.isPrefixOf, Bool.and_eq_false_iff]
      exact .inl (by simpa using fun e : c = b => this e.symm)), cr_word fun x hx => h x (by simp [hx])]
theorem blNat {r : Bl} (h : isBl r = true) : ∃ a b c d : Nat, r = ((a : Int), (b : Int), (c : Int), (d : Int)) ∧ 1 ≤ a ∧ a ≤ 999 ∧ b ≤ 3650 ∧ 1 ≤ c ∧ c ≤ 1000000000 ∧ d ≤ c := by
  obtain ⟨h0, h1, h2, h3, h4, h5, h6, h7⟩ := isBl_at h
  obtain ⟨a, b, c, d⟩ := r
  simp only at *
  refine ⟨a.toNat, b.toNat, c.toNat, d.toNat, ?_, by omega, by omega, by omega, by omega, by omega, by omega⟩
  rw [show ((a.toNat : Nat) : Int) = a by omega, show ((b.toNat : Nat) : Int) = b by omega, show ((c.toNat : Nat) : Int) = c by omega, show ((d.toNat : Nat) : Int) = d by omega]
/-- an amount, in numbers that are not negative -/
def eurD (c : Nat) : List UInt8 := decDigits (c / 100) ++ 46 :: [dgt (c / 10 % 10), dgt (c % 10)]
theorem eurT_nat (c : Nat) : eurT (c : Int) = eurD c := by
  rw [eurT, eurD, show ((c : Int) / 100) = ((c / 100 : Nat) : Int) by omega, itoa_natB, digN_two _ (by omega)]
  simp only [List.append_cancel_left_eq, List.cons.injEq, true_and]
  refine ⟨?_, ?_, trivial⟩ <;> congr 1 <;> omega
theorem eurD_no {c : Nat} {b : UInt8} (hb : isDg b = false) (h : b ≠ 46) : ∀ x ∈ eurD c, x ≠ b := by
  intro x hx e
  subst e
  rcases List.mem_append.1 hx with hx | hx
  · rw [dec_all _ _ hx] at hb; cases hb
  · simp only [List.mem_cons, List.not_mem_nil, or_false] at hx
    rcases hx with rfl | rfl | rfl
    · exact h rfl
    · rw [isDg_dgt (by omega)] at hb; cases hb
    · rw [isDg_dgt (by omega)] at hb; cases hb
theorem eurD_fst {c : Nat} (h : c ≤ 1000000000) (l : List UInt8) (hl : ∀ b q, l = b :: q → b ≠ 46 ∧ isDg b = false) : fstN 0 0 (eurD c ++ l) = c := by
  have hlen := dec_len_le (k := 7) (n := c / 100) (by omega)
  rw [eurD, List.append_assoc, fstN_word _ 0 0 _ (dec_all _) (by omega), worth_dec, List.cons_append, fstN_dot (by omega), List.cons_append, fstN_dg (by omega) (isDg_dgt (by omega)), List.cons_append,
    fstN_dg (by omega) (isDg_dgt (by omega)), dgV_dgt (by omega), dgV_dgt (by omega), List.nil_append]
  have e : 10 * (10 * (c / 100) + c / 10 % 10) + c % 10 = c := by omega
  rw [e]
  cases l with
  | nil => rfl
  | cons b q => exact fstN_stop (hl b q rfl).1 (hl b q rfl).2
theorem eurD_len {c : Nat} (h : c ≤ 1000000000) : 4 ≤ (eurD c).length ∧ (eurD c).length ≤ 11 := by
  have hlen := dec_len_le (k := 7) (n := c / 100) (by omega)
  have hne : 1 ≤ (decDigits (c / 100)).length := by
    cases hq : decDigits (c / 100) with
    | nil => exact absurd hq (dec_ne _)
    | cons _ _ => simp
  simp only [eurD, List.length_append, List.length_cons, List.length_nil]
  omega
theorem eurN_eur {c : Nat} (h : c ≤ 1000000000) : eurN (eurD c) = ((c : Int), true) := by
  have hl := eurD_len h
  have e1 : (eurD c).length - 3 = (decDigits (c / 100)).length := by simp [eurD]
  refine eurN_some ⟨hl.1, hl.2, ?_⟩ ?_
  · rw [e1, eurD, List.getElem?_append_right (Nat.le_refl _), Nat.sub_self]; rfl
  · rw [e1, eurR, if_pos (by omega), List.drop_zero, eurD, List.take_left, List.drop_append, List.drop_of_length_le (by omega), List.nil_append, show (decDigits (c / 100)).length + 1 - (decDigits (c / 100)).length = 1 by omega, List.drop_succ_cons, List.drop_zero]
    rw [readV_word _ 0 (by
      intro b hb
      rcases List.mem_append.1 hb with hb | hb
      · exact dec_all _ _ hb
      · simp only [List.mem_cons, List.not_mem_nil, or_false] at hb
        rcases hb with rfl | rfl
        · exact isDg_dgt (by omega)
        · exact isDg_dgt (by omega)), worth_append, worth_dec, worth_cons, worth_cons, worth_nil, dgV_dgt (by omega), dgV_dgt (by omega)]
    congr 1
    omega
def paidD (c d : Nat) : List UInt8 := if d = c then [44, 32, 112, 97, 105, 100] else if 0 < d then [44, 32, 112, 97, 105, 100] ++ 32 :: eurD d else []
theorem blText_nat (a b c d : Nat) : blText ((a : Int), (b : Int), (c : Int), (d : Int)) = [98, 105, 108, 108, 32] ++ (decDigits a ++ ([32, 111, 102, 32, 100, 97, 121, 32] ++ (decDigits b ++ ([58, 32] ++ (eurD c ++ paidD c d))))) := by
  have hp : paidT ((a : Int), (b : Int), (c : Int), (d : Int)) = paidD c d := by
    simp only [paidT, paidD, eurT_nat]
    have e1 : ((d : Int) = (c : Int)) ↔ d = c := by omega
    have e2 : (0 < (d : Int)) ↔ 0 < d := by omega
    simp only [e1, e2]
    rfl
  simp [blText, itoa_natB, eurT_nat, hp]
theorem paidD_head {c d : Nat} : ∀ b q, paidD c d = b :: q → b ≠ 46 ∧ isDg b = false := by
  intro b q e
  unfold paidD at e
  split at e
  · cases e; decide
  · split at e
    · cases e; decide
    · cases e
/-! ### What the program's parser finds -/
def mk0 : List UInt8 := [98, 105, 108, 108, 32]
def mk1 : List UInt8 := [32, 111, 102, 32, 100, 97, 121, 32]
def mk2 : List UInt8 := [58, 32]
def mk3 : List UInt8 := [44, 32, 112, 97, 105, 100]
def trimS (l : List UInt8) : List UInt8 := if pfx [32] l = true then l.drop 1 else l
theorem trimS_no {l : List UInt8} (h : ∀ b q, l = b :: q → b ≠ 32) : trimS l = l := by
  rw [trimS, if_neg]
  cases l with
  | nil => simp [pfx]
  | cons b q => simpa [pfx] using h b q rfl
theorem trimS_yes (l : List UInt8) : trimS (32 :: l) = l := by simp [trimS, pfx]
/-- the number behind a mark -/
def numM (l m : List UInt8) : Int := (fstN 0 0 (trimS (cr l m).1) : Nat)
def num3 (l : List UInt8) : Int := if (cr l mk3).1 = [] then numM l mk2 else numM l mk3
/-- the numbers that are found -/
def bilL (l : List UInt8) : List Int :=
  if (cr l mk0).2 = true then numM l mk0 :: (if (cr l mk1).2 = true then numM l mk1 :: (if (cr l mk2).2 = true then numM l mk2 :: (if (cr l mk3).2 = true then [num3 l] else []) else []) else []) else []
theorem dec_head {n : Nat} {b : UInt8} {q l : List UInt8} (h : decDigits n ++ l = b :: q) : isDg b = true := by
  cases hq : decDigits n with
  | nil => exact absurd hq (dec_ne n)
  | cons x t =>
    rw [hq] at h
    have e := (List.cons.inj h).1
    rw [← e]
    exact dec_all n x (by rw [hq]; simp)
theorem dg_ne {b c : UInt8} (hb : isDg b = true) (hc : isDg c = false) : b ≠ c := by rintro rfl; rw [hb] at hc; cases hc
theorem bil_text {r : Bl} (h : isBl r = true) : bilL (blText r) = r.1 :: r.2.1 :: r.2.2.1 :: (if r.2.2.2 = 0 then [] else [r.2.2.2]) := by
  obtain ⟨a, b, c, d, rfl, h1, h2, h3, h4, h5, h6⟩ := blNat h
  have la := dec_len_le (k := 2) (n := a) (by omega)
  have lb := dec_len_le (k := 3) (n := b) (by omega)
  have n32a : ∀ x ∈ decDigits a, x ≠ 32 := fun x hx => dg_ne (dec_all a x hx) (by decide)
  have n58a : ∀ x ∈ decDigits a, x ≠ 58 := fun x hx => dg_ne (dec_all a x hx) (by decide)
  have n58b : ∀ x ∈ decDigits b, x ≠ 58 := fun x hx => dg_ne (dec_all b x hx) (by decide)
  have n44a : ∀ x ∈ decDigits a, x ≠ 44 := fun x hx => dg_ne (dec_all a x hx) (by decide)
  have n44b : ∀ x ∈ decDigits b, x ≠ 44 := fun x hx => dg_ne (dec_all b x hx) (by decide)
  have n44c : ∀ x ∈ eurD c, x ≠ 44 := eurD_no (by decide) (by decide)
  have c0 : cr (blText ((a : Int), (b : Int), (c : Int), (d : Int))) mk0 = (decDigits a ++ ([32, 111, 102, 32, 100, 97, 121, 32] ++ (decDigits b ++ ([58, 32] ++ (eurD c ++ paidD c d)))), true) := by
    rw [blText_nat]; exact cr_app mk0 _
  have c1 : cr (blText ((a : Int), (b : Int), (c : Int), (d : Int))) mk1 = (decDigits b ++ ([58, 32] ++ (eurD c ++ paidD c d)), true) := by
    rw [blText_nat, show ([98, 105, 108, 108, 32] : List UInt8) = [98, 105, 108, 108] ++ [32] from rfl, List.append_assoc, mk1, cr_word (by decide), List.singleton_append, cr_skip (by
      cases hq : decDigits a with
      | nil => exact absurd hq (dec_ne a)
      | cons x t =>
        have hx : isDg x = true := dec_all a x (by rw [hq]; simp)
        have : x ≠ 111 := dg_ne hx (by decide)
        simp [List.isPrefixOf, Ne.symm this]), cr_word n32a]
    exact cr_app mk1 _
  have c2 : cr (blText ((a : Int), (b : Int), (c : Int), (d : Int))) mk2 = (eurD c ++ paidD c d, true) := by
    rw [blText_nat, mk2, cr_word (by decide), cr_word n58a, cr_word (by decide), cr_word n58b]
    exact cr_app mk2 _
  have c3 : cr (blText ((a : Int), (b : Int), (c : Int), (d : Int))) mk3 = cr (paidD c d) mk3 := by
    rw [blText_nat, mk3, cr_word (by decide), cr_word n44a, cr_word (by decide), cr_word n44b, cr_word (by decide), cr_word n44c]
  have m0 : numM (blText ((a : Int), (b : Int), (c : Int), (d : Int))) mk0 = a := by
    rw [numM, c0, trimS_no fun x q e => dg_ne (dec_head e) (by decide), fstN_word _ 0 0 _ (dec_all a) (by omega), worth_dec, List.cons_append, fstN_stop (by decide) (by decide)]
  have m1 : numM (blText ((a : Int), (b : Int), (c : Int), (d : Int))) mk1 = b := by
    rw [numM, c1, trimS_no fun x q e => dg_ne (dec_head e) (by decide), fstN_word _ 0 0 _ (dec_all b) (by omega), worth_dec, List.cons_append, fstN_stop (by decide) (by decide)]
  have m2 : numM (blText ((a : Int), (b : Int), (c : Int), (d : Int))) mk2 = c := by
    rw [numM, c2, trimS_no fun x q e => by
      simp only [eurD, List.append_assoc] at e
      exact dg_ne (dec_head e) (by decide)]
    simp only
    rw [eurD_fst h5 _ paidD_head]
  rw [bilL, c0, c1, c2, c3, m0, m1, m2]
  simp only [if_true]
  by_cases e1 : d = c
  · subst e1
    have p : cr (paidD d d) mk3 = ([], true) := by
      rw [paidD, if_pos rfl]
      have := cr_app mk3 []
      rwa [List.append_nil] at this
    have e0 : ¬ (d : Int) = 0 := by omega
    rw [p, num3, c3, p, if_pos rfl, m2, if_pos rfl, if_neg e0]
  · by_cases e2 : 0 < d
    · have p : cr (paidD c d) mk3 = (32 :: eurD d, true) := by
        rw [paidD, if_neg e1, if_pos e2]
        exact cr_app mk3 _
      have e0 : ¬ (d : Int) = 0 := by omega
      have m3 : numM (blText ((a : Int), (b : Int), (c : Int), (d : Int))) mk3 = d := by
        rw [numM, c3, p, trimS_yes]
        have := eurD_fst (c := d) (by omega) [] (fun _ _ e => by cases e)
        rw [List.append_nil] at this
        rw [this]
      have n3 : num3 (blText ((a : Int), (b : Int), (c : Int), (d : Int))) = d := by rw [num3, c3, p, if_neg (by simp), m3]
      rw [p, n3, if_pos rfl, if_neg e0]
    · have p : cr (paidD c d) mk3 = ([], false) := by
        rw [paidD, if_neg e1, if_neg e2, mk3]
        exact cr_nil
      have e0 : (d : Int) = 0 := by omega
      simp [p, e0]
theorem bl_inj {r q : Bl} (h : isBl r = true) (h1 : isBl q = true) (e : blText r = blText q) : r = q := by
  have e1 := bil_text h
  have e2 := bil_text h1
  rw [e, e2] at e1
  obtain ⟨a, b, c, d⟩ := r
  obtain ⟨a', b', c', d'⟩ := q
  simp only [List.cons.injEq] at e1
  obtain ⟨x1, x2, x3, x4⟩ := e1
  have : d = d' := by
    by_cases y1 : d = 0 <;> by_cases y2 : d' = 0
    · rw [y1, y2]
    · rw [if_pos y1, if_neg y2] at x4; cases x4
    · rw [if_neg y1, if_pos y2] at x4; cases x4
    · rw [if_neg y1, if_neg y2] at x4; cases x4; rfl
  rw [x1, x2, x3, this]
open Classical in
/-- the bill whose text this is, if there is one -/
noncomputable def parBl (l : List UInt8) : Bl × Bool := if h : ∃ r, isBl r = true ∧ blText r = l then (h.choose, true) else ((0, 0, 0, 0), false)
theorem parBl_no {l : List UInt8} (h : ∀ r, isBl r = true → blText r ≠ l) : parBl l = ((0, 0, 0, 0), false) := by
  rw [parBl, dif_neg]
  rintro ⟨r, h1, h2⟩
  exact h r h1 h2
theorem parBl_yes {r : Bl} {l : List UInt8} (h : isBl r = true) (hl : blText r = l) : parBl l = (r, true) := by
  have hex : ∃ r, isBl r = true ∧ blText r = l := ⟨r, h, hl⟩
  rw [parBl, dif_pos hex]
  rw [bl_inj hex.choose_spec.1 h (hex.choose_spec.2.trans hl.symm)]
end Go.Proofs.YthnnbgggfpempaaDoor
