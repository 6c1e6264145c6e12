/- Strings as lists of bytes, in the abstract layer. -/
import Derived.Test.YthnnbgggfpempaaDoorFacts
import Derived.Test.YthnnbgggfpempaaDoorAm15
import Derived.Lib.ItoaNum
import Derived.Laws.Strings
namespace Go.Am
set_option linter.unusedVariables false
/-- the string of some bytes -/
def bs (l : List UInt8) : ByteArray := ⟨l.toArray⟩
theorem bs_lit (xs : Array UInt8) : (⟨xs⟩ : ByteArray) = bs xs.toList := rfl
theorem bs_data (l : List UInt8) : (bs l).data = l.toArray := rfl
theorem bs_size (l : List UInt8) : (bs l).size = l.length := by simp [bs, ByteArray.size]
theorem ba_ext {x y : ByteArray} (h : x.data.toList = y.data.toList) : x = y := by
  cases x; cases y
  simp at h
  simp [h]
theorem bs_app (a b : List UInt8) : bs a ++ bs b = bs (a ++ b) := ba_ext (by simp [bs, ByteArray.data_append])
theorem bs_toList (l : List UInt8) : (bs l).toList = l := by rw [ByteArray.toList_eq]; simp [bs]
theorem bs_getElem (l : List UInt8) (i : Nat) : (bs l)[i]? = l[i]? := by
  have h : ∀ b : ByteArray, b[i]? = b.data.toList[i]? := fun b => by
    simp only [getElem?, decidableGetElem?]
    split
    · rename_i h
      have : i < b.data.size := h
      simp [this, ByteArray.getElem_eq_getElem_data]
    · rename_i h
      have : b.size ≤ i := by omega
      simpa using this
  rw [h]; simp [bs]
theorem bs_extract (l : List UInt8) (i j : Nat) : (bs l).extract i j = bs ((l.take j).drop i) := ba_ext (by simp [bs, ByteArray.data_extract, List.extract_eq_take_drop, List.drop_take])
theorem bs_inj {a b : List UInt8} : bs a = bs b ↔ a = b := ⟨fun h => by have := congrArg ByteArray.data h; simpa [bs] using this, fun h => h ▸ rfl⟩
/-- a digit -/
def dgt (k : Nat) : UInt8 := UInt8.ofNat (48 + k)
def digs : List UInt8 := [48, 49, 50, 51, 52, 53, 54, 55, 56, 57]
theorem bs_digs : (⟨#[48, 49, 50, 51, 52, 53, 54, 55, 56, 57]⟩ : ByteArray) = bs digs := rfl
theorem digs_len : digs.length = 10 := rfl
theorem digs_fin : ∀ i : _root_.Fin 10, (digs.take (i.val + 1)).drop i.val = [UInt8.ofNat (48 + i.val)] := by decide +kernel
theorem digs_piece {k j : Nat} (h : k < 10) (hj : j = k + 1) : (digs.take j).drop k = [dgt k] := by subst hj; exact digs_fin ⟨k, h⟩
theorem dec_small {n : Nat} (h : n < 10) : Lib.decDigits n = [dgt n] := Lib.decDigits_one h
theorem dec_big {n : Nat} (h : ¬ n < 10) : Lib.decDigits n = Lib.decDigits (n / 10) ++ [dgt (n % 10)] := by rw [Lib.decDigits, dif_neg h]; rfl
theorem dec_len {n : Nat} (h : n < 9223372036854775808) : (Lib.decDigits n).length ≤ 19 := by
  rw [Lib.decDigits_length]
  rcases Nat.lt_or_ge (Lib.nDigits n) 20 with h' | h'
  · omega
  · exfalso
    have key : ∀ (k u : Nat), k < Lib.nDigits u → 0 < k → 10 ^ k ≤ u := by
      intro k
      induction k with
      | zero => intro u _ h; omega
      | succ k ih =>
        intro u hk _
        by_cases hu : u < 10
        · rw [Lib.nDigits_small hu] at hk; omega
        · rw [Lib.nDigits_big hu] at hk
          by_cases hk0 : k = 0
          · subst hk0; simpa using (by omega : 10 ≤ u)
          · have := ih (u / 10) (by omega) (by omega)
            rw [Nat.pow_succ]
            omega
    have := key 19 n (by omega) (by omega)
    have e : (10 : Nat) ^ 19 = 10000000000000000000 := by decide
    omega
attribute [go_sem] bs_lit bs_size bs_app bs_toList bs_getElem bs_extract digs_len digs_piece
attribute [go_sem high] bs_digs
end Go.Am
