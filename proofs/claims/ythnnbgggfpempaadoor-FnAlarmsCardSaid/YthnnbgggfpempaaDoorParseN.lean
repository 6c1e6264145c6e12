/- What the parsers compute, on lists of bytes: no program in sight. -/
import Derived.Test.YthnnbgggfpempaaDoorBytes
namespace Go.Am
open Go.Lib
set_option linter.unusedVariables false
/-- is it a digit -/
def isDg (b : UInt8) : Bool := decide (48 ≤ b.toNat) && decide (b.toNat ≤ 57)
def dgV (b : UInt8) : Nat := b.toNat - 48
theorem dgt_toNat {k : Nat} (h : k < 10) : (dgt k).toNat = 48 + k := by
  rw [dgt, UInt8.toNat_ofNat', Nat.mod_eq_of_lt (by omega)]
theorem isDg_dgt {k : Nat} (h : k < 10) : isDg (dgt k) = true := by simp [isDg, dgt_toNat h]; omega
theorem dgV_dgt {k : Nat} (h : k < 10) : dgV (dgt k) = k := by rw [dgV, dgt_toNat h]; omega
theorem dgt_ne {k : Nat} (h : k < 10) {b : UInt8} (hb : isDg b = false) : dgt k ≠ b := by
  rintro rfl; rw [isDg_dgt h] at hb; cases hb

/-! ### Splitting -/
def splitB (b : UInt8) : List UInt8 → List (List UInt8)
  | [] => [[]]
  | x :: l => if x = b then [] :: splitB b l else (match splitB b l with
    | w :: r => (x :: w) :: r
    | [] => [[x]])
theorem splitB_ne (b : UInt8) : ∀ l, splitB b l ≠ []
  | [] => by simp [splitB]
  | x :: l => by
    rw [splitB]
    split
    · simp
    · cases splitB b l <;> simp
theorem splitB_word {b : UInt8} : ∀ {w : List UInt8}, (∀ x ∈ w, x ≠ b) → ∀ rest, splitB b (w ++ b :: rest) = w :: splitB b rest
  | [], _, rest => by simp [splitB]
  | x :: w, h, rest => by
    rw [List.cons_append, splitB, if_neg (h x (by simp)), splitB_word (fun y hy => h y (by simp [hy])) rest]
theorem splitB_last {b : UInt8} : ∀ {w : List UInt8}, (∀ x ∈ w, x ≠ b) → splitB b w = [w]
  | [], _ => rfl
  | x :: w, h => by
    rw [splitB, if_neg (h x (by simp)), splitB_last (fun y hy => h y (by simp [hy]))]
/-- the words before a place, and what has begun of the next -/
theorem splitB_length (b : UInt8) : ∀ l, (splitB b l).length ≤ l.length + 1
  | [] => by simp [splitB]
  | x :: l => by
    have := splitB_length b l
    rw [splitB]
    split
    · simp; omega
    · cases h : splitB b l with
      | nil => simp
      | cons w r => rw [h] at this; simp at this ⊢; omega
theorem splitB_size (b : UInt8) : ∀ l, ∀ w ∈ splitB b l, w.length ≤ l.length
  | [], w, h => by simp [splitB] at h; simp [h]
  | x :: l, w, h => by
    have ih := splitB_size b l
    rw [splitB] at h
    split at h
    · rcases List.mem_cons.1 h with rfl | h
      · simp
      · have := ih w h; simp; omega
    · cases hs : splitB b l with
      | nil => exact absurd hs (splitB_ne b l)
      | cons u r =>
        rw [hs] at h ih
        rcases List.mem_cons.1 h with rfl | h
        · have := ih u (by simp); simp; omega
        · have := ih w (by simp [h]); simp; omega
/-- the split as a loop makes it: out, what has begun, what is left -/
def splitS (b : UInt8) (out : List (List UInt8)) (cur : List UInt8) (l : List UInt8) : List (List UInt8) :=
  match splitB b l with
  | w :: r => out ++ (cur ++ w) :: r
  | [] => out
theorem splitS_start (b : UInt8) (l : List UInt8) : splitS b [] [] l = splitB b l := by
  unfold splitS
  cases h : splitB b l with
  | nil => exact absurd h (splitB_ne b l)
  | cons w r => simp
theorem splitS_nil (b : UInt8) (out : List (List UInt8)) (cur : List UInt8) : splitS b out cur [] = out ++ [cur] := by simp [splitS, splitB]
theorem splitS_yes (b : UInt8) (out : List (List UInt8)) (cur l : List UInt8) : splitS b out cur (b :: l) = splitS b (out ++ [cur]) [] l := by
  unfold splitS
  rw [splitB, if_pos rfl]
  cases h : splitB b l with
  | nil => exact absurd h (splitB_ne b l)
  | cons w r => simp
theorem splitS_no {b x : UInt8} (hx : x ≠ b) (out : List (List UInt8)) (cur l : List UInt8) : splitS b out cur (x :: l) = splitS b out (cur ++ [x]) l := by
  unfold splitS
  rw [splitB, if_neg hx]
  cases h : splitB b l with
  | nil => exact absurd h (splitB_ne b l)
  | cons w r => simp

/-! ### Numbers between other bytes -/
/-- at most k digits, behind those that are worth n -/
def takeNum : Nat → Nat → List UInt8 → Nat × List UInt8
  | 0, n, l => (n, l)
  | _ + 1, n, [] => (n, [])
  | k + 1, n, b :: l => if isDg b = true then takeNum k (10 * n + dgV b) l else (n, b :: l)
theorem takeNum_len : ∀ k n l, (takeNum k n l).2.length ≤ l.length
  | 0, n, l => Nat.le_refl _
  | k + 1, n, [] => Nat.le_refl _
  | k + 1, n, b :: l => by
    rw [takeNum]
    split
    · have := takeNum_len k (10 * n + dgV b) l; simp; omega
    · exact Nat.le_refl _
def numsOf (m : Nat) (l : List UInt8) : List Nat :=
  match m, l with
  | 0, _ => []
  | _ + 1, [] => []
  | m + 1, b :: l => if isDg b = true then (takeNum 6 0 (b :: l)).1 :: numsOf m ((takeNum 6 0 (b :: l)).2.drop 1) else numsOf (m + 1) l
termination_by l.length
decreasing_by
  · have := takeNum_len 6 0 (b :: l)
    simp only [List.length_drop, List.length_cons] at *
    omega
  · simp
theorem numsOf_zero (l : List UInt8) : numsOf 0 l = [] := by rw [numsOf]
theorem numsOf_nil (m : Nat) : numsOf m [] = [] := by cases m <;> rw [numsOf]
theorem numsOf_yes {m : Nat} {b : UInt8} {l : List UInt8} (h : isDg b = true) : numsOf (m + 1) (b :: l) = (takeNum 6 0 (b :: l)).1 :: numsOf m ((takeNum 6 0 (b :: l)).2.drop 1) := by rw [numsOf, if_pos h]
theorem numsOf_no {m : Nat} {b : UInt8} {l : List UInt8} (h : isDg b = false) : numsOf (m + 1) (b :: l) = numsOf (m + 1) l := by rw [numsOf, if_neg (by simp [h])]
theorem numsOf_length : ∀ (k m : Nat) (l : List UInt8), l.length ≤ k → (numsOf m l).length ≤ m
  | _, 0, l, _ => by rw [numsOf_zero]; simp
  | _, m + 1, [], _ => by rw [numsOf_nil]; simp
  | 0, m + 1, b :: l, h => by simp at h
  | k + 1, m + 1, b :: l, h => by
    by_cases hd : isDg b = true
    · have h1 := takeNum_len 6 0 (b :: l)
      have := numsOf_length k m ((takeNum 6 0 (b :: l)).2.drop 1) (by simp only [List.length_drop, List.length_cons] at *; omega)
      rw [numsOf_yes hd]; simp only [List.length_cons]; omega
    · rw [numsOf_no (by simpa using hd)]
      exact numsOf_length k (m + 1) l (by simp at h; omega)
/-- the digits of a number in decimal, most worth first -/
theorem dec_all : ∀ n, ∀ b ∈ decDigits n, isDg b = true := by
  intro n
  induction n using Nat.strongRecOn with
  | _ n ih =>
    intro b hb
    by_cases h : n < 10
    · rw [dec_small h] at hb
      obtain rfl : b = dgt n := by simpa using hb
      exact isDg_dgt h
    · rw [dec_big h] at hb
      rcases List.mem_append.1 hb with hb | hb
      · exact ih (n / 10) (by omega) b hb
      · obtain rfl : b = dgt (n % 10) := by simpa using hb
        exact isDg_dgt (by omega)
/-- the number that digits are worth, behind n -/
def worth (n : Nat) (l : List UInt8) : Nat := l.foldl (fun n b => 10 * n + dgV b) n
theorem worth_nil (n : Nat) : worth n [] = n := rfl
theorem worth_cons (n : Nat) (b : UInt8) (l : List UInt8) : worth n (b :: l) = worth (10 * n + dgV b) l := by rw [worth, worth, List.foldl_cons]
theorem worth_append : ∀ (n : Nat) (l m : List UInt8), worth n (l ++ m) = worth (worth n l) m
  | n, [], m => rfl
  | n, b :: l, m => by rw [List.cons_append, worth_cons, worth_cons, worth_append]
theorem worth_dec : ∀ n, worth 0 (decDigits n) = n := by
  intro n
  induction n using Nat.strongRecOn with
  | _ n ih =>
    by_cases h : n < 10
    · rw [dec_small h, worth_cons, worth_nil, dgV_dgt h]; omega
    · rw [dec_big h, worth_append, ih (n / 10) (by omega), worth_cons, worth_nil, dgV_dgt (by omega)]; omega
theorem takeNum_word (w : List UInt8) : ∀ (k n : Nat) (l : List UInt8), (∀ b ∈ w, isDg b = true) → w.length ≤ k → (∀ b r, l = b :: r → isDg b = false ∨ w.length = k) → takeNum k n (w ++ l) = (worth n w, l) := by
  induction w with
  | nil =>
    intro k n l _ _ h
    cases k with
    | zero => cases l <;> rfl
    | succ k => cases l with
      | nil => rfl
      | cons b r =>
        have hb : isDg b = false := by
          rcases h b r rfl with h | h
          · exact h
          · simp at h
        show takeNum (k + 1) n (b :: r) = _
        rw [takeNum, if_neg (by simp [hb])]; rfl
  | cons b w ih =>
    intro k n l hd hk h
    cases k with
    | zero => simp at hk
    | succ k =>
      rw [List.cons_append, takeNum, if_pos (hd b (by simp)), ih k _ l (fun x hx => hd x (by simp [hx])) (by simp at hk; omega) (fun x r e => by
        rcases h x r e with h | h
        · exact .inl h
        · exact .inr (by simp at h; omega)), worth_cons]
theorem numsOf_skip {m : Nat} : ∀ {w l : List UInt8}, (∀ b ∈ w, isDg b = false) → numsOf (m + 1) (w ++ l) = numsOf (m + 1) l
  | [], _, _ => rfl
  | b :: w, l, h => by rw [List.cons_append, numsOf_no (h b (by simp)), numsOf_skip fun x hx => h x (by simp [hx])]
theorem numsOf_word {m : Nat} {w l : List UInt8} (hw : ∀ b ∈ w, isDg b = true) (h0 : w ≠ []) (h6 : w.length ≤ 6) (hl : ∀ b r, l = b :: r → isDg b = false) : numsOf (m + 1) (w ++ l) = worth 0 w :: numsOf m (l.drop 1) := by
  cases w with
  | nil => exact absurd rfl h0
  | cons b w =>
    rw [List.cons_append, numsOf_yes (hw b (by simp)), ← List.cons_append, takeNum_word (b :: w) 6 0 l hw h6 (fun x r e => .inl (hl x r e))]
theorem dec_ne (n : Nat) : decDigits n ≠ [] := by
  intro h
  have h1 := congrArg List.length h
  rw [decDigits_length] at h1
  have h2 := nDigits_pos n
  rw [h1] at h2
  exact absurd h2 (by simp)
theorem nDig_le : ∀ (k n : Nat), n < 10 ^ (k + 1) → nDigits n ≤ k + 1
  | 0, n, h => by rw [nDigits_small (by simpa using h)]; omega
  | k + 1, n, h => by
    by_cases h10 : n < 10
    · rw [nDigits_small h10]; omega
    · rw [nDigits_big h10]
      have := nDig_le k (n / 10) (by rw [Nat.pow_succ] at h; omega)
      omega
theorem dec_len_le {k n : Nat} (h : n < 10 ^ (k + 1)) : (decDigits n).length ≤ k + 1 := by rw [decDigits_length]; exact nDig_le k n h
end Go.Am
