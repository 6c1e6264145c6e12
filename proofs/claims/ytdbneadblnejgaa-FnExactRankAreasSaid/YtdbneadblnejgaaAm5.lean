/- The abstract layer, part 5: operations that make memory or write to it: box, alloc, build, buildSlice, makeSlice, store, append. -/
import Derived.Test.YtdbneadblnejgaaAm4
import Derived.Maps.AppendAt
namespace Go.Am
open Go.RowKit
set_option linter.unusedVariables false

/-! ### Abstract heaps under these operations -/
def upd (ρ : Rho) (n : Nat) (L : Loc) : Rho := fun t => if t = n then some L else ρ t
theorem upd_le {ρ : Rho} {H : Heap} {w : World} (hh : HR ρ H w) (L : Loc) : ρ.le (upd ρ H.length L) := fun t L' ht => by
  have := hh.lt_of ht
  have hne : t ≠ H.length := by omega
  simp [upd, hne, ht]
theorem upd_old {ρ : Rho} {n t : Nat} {L : Loc} (h : t ≠ n) : upd ρ n L t = ρ t := by simp [upd, h]
theorem upd_new {ρ : Rho} {n : Nat} {L : Loc} : upd ρ n L n = some L := by simp [upd]

theorem Heap.get_snoc {H : Heap} {b : Option Blk} {t : Nat} {b' : Blk} (h : Heap.get (H ++ [b]) t = some b') : (t < H.length ∧ H.get t = some b') ∨ (t = H.length ∧ b = some b') := by
  have hlt := Heap.get_lt h
  simp at hlt
  rcases Nat.lt_or_ge t H.length with h1 | h1
  · rw [Heap.get_append_left h1] at h; exact .inl ⟨h1, h⟩
  · obtain rfl : t = H.length := by omega
    rw [Heap.get_new] at h
    exact .inr ⟨rfl, h⟩

theorem BlkR.mono {ρ ρ' : Rho} {b : Blk} {w w' : World} {L : Loc} (h : BlkR ρ b w L) (hl : ρ.le ρ') (hc : ∀ A cap sz, L = .real A cap sz → (b.own = true ∨ b.xs ≠ []) → w'.heap[A.block]? = w.heap[A.block]?) : BlkR ρ' b w' L := by
  cases L with
  | virt => exact h
  | real A cap sz =>
    obtain ⟨a1, a2, a3, a4, a5⟩ := h
    refine ⟨a1, a2, a3, fun j v hv => ?_, fun ho => ?_⟩
    · obtain ⟨cv, c1, c2⟩ := a4 j v hv
      have hne : b.xs ≠ [] := by rintro e; rw [e] at hv; simp at hv
      have hb := hc A cap sz rfl (.inr hne)
      exact ⟨cv, (World.cell?_of_block (w := w) (by rw [add_block]; exact hb)).trans c1, c2.mono hl⟩
    · obtain ⟨cur, e2, e3⟩ := a5 ho
      exact ⟨cur, (hc A cap sz rfl (.inl ho)).trans e2, e3⟩

theorem BlkR.lt {ρ : Rho} {b : Blk} {w : World} {A : Addr} {cap sz : Nat} (h : BlkR ρ b w (.real A cap sz)) (hb : b.own = true ∨ b.xs ≠ []) : A.block < w.heap.size := by
  obtain ⟨a1, a2, a3, a4, a5⟩ := h
  rcases hb with hb | hb
  · obtain ⟨cur, e2, _⟩ := a5 hb
    exact (Array.getElem?_eq_some_iff.1 e2).1
  · cases hx : b.xs with
    | nil => exact absurd hx hb
    | cons x r =>
      obtain ⟨cv, c1, _⟩ := a4 0 x (by rw [hx]; rfl)
      have := cell_lt c1
      rwa [add_block] at this

/-- A new block. -/
theorem alloc_sound {ρ : Rho} {H : Heap} {w : World} (hh : HR ρ H w) {xs : List Value} {cur : Array Value} (e : TypeId) (sz : Nat) (hx : L2 (CR ρ) xs cur.toList) :
    HR (upd ρ H.length (.real ⟨w.heap.size, 0, none⟩ cur.size sz)) (H ++ [some ⟨xs, true, e, sz⟩]) (w.alloc (.cells cur e)) ∧
    Ext ρ H w (upd ρ H.length (.real ⟨w.heap.size, 0, none⟩ cur.size sz)) (H ++ [some ⟨xs, true, e, sz⟩]) (w.alloc (.cells cur e)) := by
  have hle := upd_le hh (.real ⟨w.heap.size, 0, none⟩ cur.size sz)
  have hnew := alloc_new w (.cells cur e)
  have hlen : xs.length = cur.size := by rw [hx.length]; simp
  have hold : ∀ k, k < w.heap.size → (w.alloc (.cells cur e)).heap[k]? = w.heap[k]? := fun k hk => alloc_old w _ k hk
  refine ⟨⟨fun t => ?_, ?_, ?_⟩, ?_⟩
  · by_cases ht : t = H.length
    · subst ht; simp [upd]
    · rw [upd_old ht, hh.dom t]; simp; omega
  · intro t b L hb hL
    rcases Heap.get_snoc hb with ⟨h1, h2⟩ | ⟨h1, h2⟩
    · rw [upd_old (by omega)] at hL
      have := hh.blk t b L h2 hL
      exact this.mono hle fun A cap sz' hA ho => hold _ (BlkR.lt (hA ▸ this) ho)
    · subst h1
      rw [upd_new] at hL
      cases hL
      cases h2
      refine ⟨rfl, rfl, by simp [hlen], fun j v hv => ?_, fun _ => ⟨cur, hnew, by simp⟩⟩
      obtain ⟨cv, c1, c2⟩ := hx.get hv
      refine ⟨cv, ?_, c2.mono hle⟩
      rw [addr_add]
      simpa using c1
  · intro t t' b b' A cap sz1 A' cap' sz1' hne hb hb' ho hd hA hA'
    rcases Heap.get_snoc hb with ⟨h1, h2⟩ | ⟨h1, h2⟩
    · rw [upd_old (by omega)] at hA
      rcases Heap.get_snoc hb' with ⟨k1, k2⟩ | ⟨k1, k2⟩
      · rw [upd_old (by omega)] at hA'
        exact hh.far t t' b b' A cap sz1 A' cap' sz1' hne h2 k2 ho hd hA hA'
      · subst k1
        rw [upd_new] at hA'
        cases hA'
        have := BlkR.lt (hh.blk t b _ h2 hA) (.inl ho)
        simp only; omega
    · subst h1
      rw [upd_new] at hA
      cases hA
      rcases Heap.get_snoc hb' with ⟨k1, k2⟩ | ⟨k1, k2⟩
      · rw [upd_old (by omega)] at hA'
        have := BlkR.lt (hh.blk t' b' _ k2 hA') hd
        simp only; omega
      · exact absurd k1.symm hne
  · refine ⟨rfl, rfl, rfl, by simp, by simp, fun t ht => upd_old (by omega), fun k hk _ => hold k hk, ?_⟩
    intro t b A cap sz1 hb ho hA
    rcases Heap.get_snoc hb with ⟨h1, h2⟩ | ⟨h1, h2⟩
    · rw [upd_old (by omega)] at hA
      exact .inr ⟨t, b, A, cap, sz1, h2, ho, hA, rfl⟩
    · subst h1
      rw [upd_new] at hA
      cases hA
      exact .inl (Nat.le_refl _)

theorem Heap.get_set {H : Heap} {t t' : Nat} {b : Option Blk} : Heap.get (H.set t b) t' = if t = t' then (if t < H.length then b else none) else H.get t' := by
  unfold Heap.get
  rw [List.getElem?_set]
  split
  · rename_i e; subst e
    split
    · simp
    · simp
  · rfl

/-- A store into a block of one's own: cells off .. off + news.length. -/
theorem store_sound {ρ : Rho} {H : Heap} {w : World} (hh : HR ρ H w) {t : Nat} {b : Blk} {A : Addr} {cap sz : Nat} (hb : H.get t = some b) (ho : b.own = true) (hA : ρ t = some (.real A cap sz))
    {cur : Array Value} (hcur : w.heap[A.block]? = some (.cells cur b.e (0, 0))) {xs' : List Value} {cur' : Array Value} (hlen : xs'.length ≤ cap) (hsz : cur'.size = A.off + cap) (hx : ∀ (j : Nat) (v : Value), xs'[j]? = some v → ∃ cv, cur'[A.off + j]? = some cv ∧ CR ρ v cv) :
    HR ρ (H.set t (some { b with xs := xs' })) (w.setRow A.block cur') ∧ Ext ρ H w ρ (H.set t (some { b with xs := xs' })) (w.setRow A.block cur') := by
  have hbl := hh.blk t b _ hb hA
  obtain ⟨a1, a2, a3, a4, a5⟩ := hbl
  obtain ⟨cur0, e2, e3⟩ := a5 ho
  have htl := Heap.get_lt hb
  have hother : ∀ k, k ≠ A.block → (w.setRow A.block cur').heap[k]? = w.heap[k]? := fun k hk => setRow_other w A.block k cur' hk
  have hsame := setRow_heap w A.block cur cur' b.e (0, 0) hcur
  refine ⟨⟨fun s => by rw [hh.dom s]; simp, ?_, ?_⟩, ?_⟩
  · intro s b' L hb' hL
    rw [Heap.get_set] at hb'
    split at hb'
    · rename_i e
      subst e
      try rw [if_pos htl] at hb'
      cases hb'
      rw [hA] at hL
      cases hL
      refine ⟨a1, a2, hlen, fun j v hv => ?_, fun _ => ⟨cur', hsame, hsz⟩⟩
      obtain ⟨cv, c1, c2⟩ := hx j v hv
      refine ⟨cv, ?_, c2⟩
      have hAe : A = ⟨A.block, A.off, none⟩ := addr_eq' a1
      rw [hAe, addr_addo, cell_of_row _ A.block (A.off + j) cur' b.e (0, 0) hsame]
      exact c1
    · rename_i hne
      have h2 := hh.blk s b' L hb' hL
      refine h2.mono (fun _ _ h => h) fun A' cap' sz' hA' hd => hother _ fun e => ?_
      subst hA'
      exact hh.far t s b b' A cap sz A' cap' sz' hne hb hb' ho hd hA hL e.symm
  · intro s s' b1 b2 A1 cap1 sz1 A2 cap2 sz2 hne h1 h2 ho1 hd h3 h4
    have back : ∀ {s : Nat} {b' : Blk}, Heap.get (H.set t (some { b with xs := xs' })) s = some b' → ∃ b'', H.get s = some b'' ∧ b''.own = b'.own ∧ (s ≠ t → b'' = b') := by
      intro s b' h
      rw [Heap.get_set] at h
      split at h
      · rename_i e; subst e
        try rw [if_pos htl] at h
        cases h
        exact ⟨b, hb, rfl, fun h => absurd rfl h⟩
      · exact ⟨b', h, rfl, fun _ => rfl⟩
    obtain ⟨c1, g1, g2, g3⟩ := back h1
    obtain ⟨c2, k1, k2, k3⟩ := back h2
    by_cases hs : s' = t
    · subst hs
      have : c2.own = true := by rw [hb] at k1; cases k1; exact ho
      exact hh.far s s' c1 c2 A1 cap1 sz1 A2 cap2 sz2 hne g1 k1 (g2.trans ho1) (.inl this) h3 h4
    · have e2 := k3 hs
      subst e2
      exact hh.far s s' c1 c2 A1 cap1 sz1 A2 cap2 sz2 hne g1 k1 (g2.trans ho1) hd h3 h4
  · refine ⟨rfl, rfl, rfl, by simp, by simp, fun _ _ => rfl, fun k hk hno => hother k fun e => hno ⟨t, b, A, cap, sz, hb, ho, hA, e.symm⟩, ?_⟩
    intro s b' A' cap' sz' hb' ho' hA'
    rw [Heap.get_set] at hb'
    split at hb'
    · rename_i e; subst e
      try rw [if_pos htl] at hb'
      cases hb'
      exact .inr ⟨_, b, A', cap', sz', hb, ho, hA', rfl⟩
    · exact .inr ⟨s, b', A', cap', sz', hb', ho', hA', rfl⟩

/-- A row of one's own is taken over by a new tag, in its old place or in a new block; the old tag is dead. -/
theorem regrow_sound {ρ : Rho} {H : Heap} {w w' : World} (hh : HR ρ H w) {t : Nat} {b : Blk} {L0 : Loc} (hb : H.get t = some b) (ho : b.own = true) (hL : ρ t = some L0)
    (hos : w'.os = w.os) (htape : w'.tape = w.tape) (hout : w'.output = w.output) (hsize : w.heap.size ≤ w'.heap.size)
    (hkeep : ∀ k, k < w.heap.size → (∀ A cap sz, L0 = .real A cap sz → k ≠ A.block) → w'.heap[k]? = w.heap[k]?)
    {b' : Blk} {L : Loc} (hbo : b'.own = true) (hbr : BlkR (upd ρ H.length L) b' w' L)
    (hwhere : ∀ A cap sz, L = .real A cap sz → w.heap.size ≤ A.block ∨ ∃ A0 cap0 sz0, L0 = .real A0 cap0 sz0 ∧ A.block = A0.block) :
    HR (upd ρ H.length L) (H.set t none ++ [some b']) w' ∧ Ext ρ H w (upd ρ H.length L) (H.set t none ++ [some b']) w' := by
  have htl := Heap.get_lt hb
  have hle := upd_le hh L
  have hlen : (H.set t none).length = H.length := by simp
  have old : ∀ {s : Nat} {c : Blk}, Heap.get (H.set t none ++ [some b']) s = some c → (s < H.length ∧ s ≠ t ∧ H.get s = some c) ∨ (s = H.length ∧ c = b') := by
    intro s c h
    rcases Heap.get_snoc h with ⟨h1, h2⟩ | ⟨h1, h2⟩
    · rw [Heap.get_set] at h2
      split at h2
      · rename_i e; subst e; (try rw [if_pos htl] at h2); cases h2
      · rename_i hne; exact .inl ⟨by rwa [hlen] at h1, fun e => hne e.symm, h2⟩
    · exact .inr ⟨by rwa [hlen] at h1, by cases h2; rfl⟩
  have apart : ∀ {s : Nat} {c : Blk} {A cap sz}, s ≠ t → H.get s = some c → (c.own = true ∨ c.xs ≠ []) → ρ s = some (.real A cap sz) → A.block < w.heap.size ∧ ∀ A0 cap0 sz0, L0 = .real A0 cap0 sz0 → A.block ≠ A0.block := by
    intro s c A cap sz hne hs hd hA
    refine ⟨BlkR.lt (hh.blk s c _ hs hA) hd, fun A0 cap0 sz0 e => ?_⟩
    subst e
    exact fun e => hh.far t s b c A0 cap0 sz0 A cap sz (fun e => hne e.symm) hb hs ho hd hL hA e.symm
  refine ⟨⟨fun s => ?_, ?_, ?_⟩, ?_⟩
  · by_cases hs : s = H.length
    · subst hs; simp [upd]
    · rw [upd_old hs, hh.dom s]; simp; omega
  · intro s c L' hc hL'
    rcases old hc with ⟨h1, h2, h3⟩ | ⟨h1, rfl⟩
    · rw [upd_old (by omega)] at hL'
      have hbs := hh.blk s c L' h3 hL'
      refine hbs.mono hle fun A cap sz hA hd => ?_
      subst hA
      obtain ⟨g1, g2⟩ := apart h2 h3 hd hL'
      exact hkeep _ g1 fun A0 cap0 sz0 e => g2 A0 cap0 sz0 e
    · subst h1
      rw [upd_new] at hL'
      cases hL'
      exact hbr
  · intro s s' c c' A cap sz A' cap' sz' hne hc hc' hoc hd hA hA'
    rcases old hc with ⟨h1, h2, h3⟩ | ⟨h1, rfl⟩
    · rw [upd_old (by omega)] at hA
      rcases old hc' with ⟨k1, k2, k3⟩ | ⟨k1, rfl⟩
      · rw [upd_old (by omega)] at hA'
        exact hh.far s s' c c' A cap sz A' cap' sz' hne h3 k3 hoc hd hA hA'
      · subst k1
        rw [upd_new] at hA'
        cases hA'
        obtain ⟨g1, g2⟩ := apart h2 h3 (.inl hoc) hA
        rcases hwhere A' cap' sz' rfl with h | ⟨A0, cap0, sz0, e, h⟩
        · omega
        · rw [h]; exact g2 A0 cap0 sz0 e
    · subst h1
      rw [upd_new] at hA
      cases hA
      rcases old hc' with ⟨k1, k2, k3⟩ | ⟨k1, rfl⟩
      · rw [upd_old (by omega)] at hA'
        obtain ⟨g1, g2⟩ := apart k2 k3 hd hA'
        rcases hwhere A cap sz rfl with h | ⟨A0, cap0, sz0, e, h⟩
        · omega
        · rw [h]; exact fun e' => g2 A0 cap0 sz0 e e'.symm
      · exact absurd k1.symm hne
  · refine ⟨hos, htape, hout, hsize, by simp, fun s hs => upd_old (by omega), fun k hk hno => hkeep k hk fun A cap sz e => ?_, ?_⟩
    · subst e; exact fun e => hno ⟨t, b, A, cap, sz, hb, ho, hL, e.symm⟩
    · intro s c A cap sz hc hoc hA
      rcases old hc with ⟨h1, h2, h3⟩ | ⟨h1, rfl⟩
      · rw [upd_old (by omega)] at hA
        exact .inr ⟨s, c, A, cap, sz, h3, hoc, hA, rfl⟩
      · subst h1
        rw [upd_new] at hA
        cases hA
        rcases hwhere A cap sz rfl with h | ⟨A0, cap0, sz0, e, h⟩
        · exact .inl h
        · subst e
          exact .inr ⟨t, b, A0, cap0, sz0, hb, ho, hL, h.symm⟩

end Go.Am
