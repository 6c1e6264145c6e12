/- A block of bytes, and a cursor over it in a new block. -/
import Derived.Test.YtncblopbcnkinaaGreatDraw
import Derived.Test.YtncblopbcnkinaaGreatAm18
namespace Go.Proofs.YtncblopbcnkinaaGreat
open Go.Am
set_option linter.unusedVariables false
set_option linter.unusedSimpArgs false
set_option maxRecDepth 100000

/-- block tc has n bytes -/
structure Bytes (H : Heap) (tc n : Nat) : Prop where
  lt : tc < H.length
  size : n ≤ 9223372036854775807
  bytes : ∀ k, k < n → ∃ b : Int, 0 ≤ b ∧ b ≤ 255 ∧ aCells H ⟨tc, k, none⟩ 1 = some [.int .u8 b]
theorem Bytes.app {H : Heap} {tc n : Nat} (h : Bytes H tc n) (L : Heap) : Bytes (H ++ L) tc n :=
  ⟨by have := h.lt; simp; omega, h.size, fun k hk => by
    obtain ⟨b, h1, h2, h3⟩ := h.bytes k hk
    exact ⟨b, h1, h2, by rw [aCells_old h.lt]; exact h3⟩⟩
theorem Bytes.cur {H : Heap} {tc n : Nat} (h : Bytes H tc n) (cc : Nat) : Cur (H ++ [curB tc n cc 0 0]) H.length tc n cc 0 0 :=
  ⟨by rw [Heap.get_len]; rfl, by have := h.lt; simp; omega, Nat.ne_of_lt h.lt, h.size, (h.app _).bytes, Int.le_refl _⟩
theorem Bytes.curAt {H : Heap} {tc n : Nat} (h : Bytes H tc n) (cc : Nat) {a s : Int} (ha : 0 ≤ a) (L : Heap) : Cur (H ++ curB tc n cc a s :: L) H.length tc n cc a s :=
  ⟨by rw [Heap.get_len]; rfl, by have := h.lt; simp; omega, Nat.ne_of_lt h.lt, h.size, (h.app _).bytes, ha⟩
theorem Bytes.curJ {H L : Heap} {tc n cc : Nat} (h : Bytes H tc n) (j : Nat) {a s : Int} (hg : Heap.get L j = curB tc n cc a s) (ha : 0 ≤ a) : Cur (H ++ L) (H.length + j) tc n cc a s :=
  ⟨by rw [Heap.get_len_add]; exact hg, by have := h.lt; simp; omega, by have := h.lt; omega, h.size, (h.app _).bytes, ha⟩
theorem Bytes.wms {H : Heap} {tc n : Nat} (h : Bytes H tc n) (cc : Nat) (a s : Int) (js : List (Option Nat)) (m : Nat) : L2 (WM (sg H.length js) (H.length + m)) (curX tc n cc a s) (curX tc n cc a s) := by
  have := h.lt
  exact ⟨⟨(show tc < H.length + m by omega), .inl ⟨tc, cc, by simp [sg, this], rfl⟩⟩, rfl, rfl, trivial⟩
end Go.Proofs.YtncblopbcnkinaaGreat
