/- A slice in a cell, that begins within its block: a block of its own from there on. -/
import Derived.Test.YtappbdfieccfeaaAm18
namespace Go.Am
open Go.RowKit
set_option linter.unusedVariables false

theorem hr_cell {ρ : Rho} {H : Heap} {w : World} (hh : HR ρ H w) {u : Nat} {b : Blk} {xs : List Value} (hb : H.get u = some b) (hl : xs.length = b.xs.length)
    (hx : ∀ (j : Nat) (v v' cv : Value), b.xs[j]? = some v → xs[j]? = some v' → CR ρ v cv → CR ρ v' cv) : HR ρ (H.set u (some ⟨xs, b.own, b.e, b.sz⟩)) w := by
  have hu := Heap.get_lt hb
  have old : ∀ {t' : Nat} {b' : Blk}, Heap.get (H.set u (some ⟨xs, b.own, b.e, b.sz⟩)) t' = some b' → (t' = u ∧ b' = ⟨xs, b.own, b.e, b.sz⟩) ∨ (t' ≠ u ∧ H.get t' = some b') := fun {t' b'} h => by
    by_cases e : t' = u
    · subst e
      rw [Heap.get_set_self hu] at h
      exact .inl ⟨rfl, (Option.some.inj h).symm⟩
    · rw [Heap.get_set_ne e] at h
      exact .inr ⟨e, h⟩
  have ne : ∀ {xs' : List Value}, xs'.length = b.xs.length → xs' ≠ [] → b.xs ≠ [] := fun {xs'} h h1 h2 => by
    rw [h2] at h
    exact h1 (List.length_eq_zero_iff.1 h)
  refine ⟨fun t' => by rw [hh.dom t']; simp, fun t' b' L' hb' hL' => ?_, fun t1 t2 b1 b2 A cap sz A' cap' sz' hne h1 h2 ho ho2 g1 g2 => ?_⟩
  · rcases old hb' with ⟨rfl, rfl⟩ | ⟨_, h1⟩
    · have bl := hh.blk t' b L' hb hL'
      cases L' with
      | virt =>
        have h0 : b.xs = [] := bl
        show xs = []
        rw [h0] at hl
        exact List.length_eq_zero_iff.1 hl
      | real A cap sz =>
        obtain ⟨c1, c2, c3, c4, c5⟩ := bl
        refine ⟨c1, c2, by simp only [hl]; exact c3, fun j v' hj => ?_, c5⟩
        have hjl : j < b.xs.length := by
          rw [← hl]
          exact (List.getElem?_eq_some_iff.1 hj).1
        obtain ⟨cv, k1, k2⟩ := c4 j b.xs[j] (List.getElem?_eq_getElem hjl)
        exact ⟨cv, k1, hx j _ _ cv (List.getElem?_eq_getElem hjl) hj k2⟩
    · exact hh.blk t' b' L' h1 hL'
  · have k1 : ∃ c1, H.get t1 = some c1 ∧ c1.own = true := by
      rcases old h1 with ⟨rfl, rfl⟩ | ⟨_, h⟩
      · exact ⟨b, hb, ho⟩
      · exact ⟨b1, h, ho⟩
    have k2 : ∃ c2, H.get t2 = some c2 ∧ (c2.own = true ∨ c2.xs ≠ []) := by
      rcases old h2 with ⟨rfl, rfl⟩ | ⟨_, h⟩
      · exact ⟨b, hb, ho2.imp id fun h => ne hl h⟩
      · exact ⟨b2, h, ho2⟩
    obtain ⟨c1, d1, d2⟩ := k1
    obtain ⟨c2, d3, d4⟩ := k2
    exact hh.far t1 t2 c1 c2 A cap sz A' cap' sz' hne d1 d3 d2 d4 g1 g2
theorem AWp.shiftC {P : Program} {N : Nat} {H0 H : Heap} {Q : APost} {c : Code} {fr : Fr} (H1 : Heap) {t off n k k' u m : Nat} {x : Value} {b : Blk} {o : Bool} {e z : Nat} (hb : H.get t = some b) (hu : H.get u = some ⟨[x, .slice (some ⟨t, off, none⟩) n k], o, e, z⟩) (hut : u ≠ t) (hu0 : H0.length ≤ u)
    (e1 : H1 = List.set (H.set t none ++ [some (⟨b.xs.drop off, false, b.e, b.sz⟩ : Blk)]) u (some (⟨[x, .slice (some ⟨m, 0, none⟩) n k'], o, e, z⟩ : Blk))) (em : m = H.length)
    (h : AWp P N H0 c Q fr H1) : AWp P N H0 c Q fr H := fun ρ0 w0 ρ a w h0 he hf hh => by
  subst e1; subst em
  obtain ⟨L, h1, h2⟩ := hr_shift hh off hb
  have hle := upd_le hh L
  have hul := Heap.get_lt hu
  have hu1 : Heap.get (H.set t none ++ [some ⟨b.xs.drop off, false, b.e, b.sz⟩]) u = some ⟨[x, .slice (some ⟨t, off, none⟩) n k], o, e, z⟩ := by
    rw [Heap.get_append_left (by simpa using hul), Heap.get_set_ne hut]; exact hu
  have htl := Heap.get_lt hb
  have h3 := hr_cell h1 hu1 (xs := [x, .slice (some ⟨H.length, 0, none⟩) n k']) rfl (fun j v v' cv hj hj' hc => by
    match j with
    | 0 =>
      simp at hj hj'
      rw [← hj']; rw [← hj] at hc; exact hc
    | 1 =>
      simp at hj hj'
      subst hj; subst hj'
      obtain ⟨g0, L', A', c', g1, g2, g3, g4, g5⟩ := hc
      rw [upd_old (by simp only; omega)] at g1
      exact h2 n cv ⟨g0, L', A', c', g1, g2, g3, g4, g5⟩
    | j + 2 => simp at hj)
  refine h ρ0 w0 _ a w h0 ⟨he.os, he.tape, he.output, he.size, by have := he.len; simp; omega, fun t' ht' => ?_, he.old, fun t' b' A cap sz hb' ho hρ => ?_⟩ ⟨hf.defers, hf.size, fun t' v hv => (hf.slot t' v hv).mono hle⟩ h3
  · rw [upd_old (by have := he.len; omega)]
    exact he.rho t' ht'
  · by_cases eu : t' = u
    · subst eu
      rw [Heap.get_set_self (by simp; omega)] at hb'
      cases hb'
      rw [upd_old (by omega)] at hρ
      exact he.fresh t' _ A cap sz hu ho hρ
    · rw [Heap.get_set_ne eu] at hb'
      rcases Heap.get_snoc hb' with ⟨k1, k2⟩ | ⟨k1, k2⟩
      · have e' : t' ≠ t := by
          rintro rfl
          rw [Heap.get_set_self htl] at k2; cases k2
        rw [Heap.get_set_ne e'] at k2
        rw [upd_old (by have := Heap.get_lt k2; omega)] at hρ
        exact he.fresh t' b' A cap sz k2 ho hρ
      · cases k2; cases ho
end Go.Am
