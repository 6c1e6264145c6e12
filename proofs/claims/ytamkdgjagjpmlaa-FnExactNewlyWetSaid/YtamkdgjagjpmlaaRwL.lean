/- Lists of lists of numbers in a heap: a spine that holds addresses of rows. -/
import Derived.Test.YtamkdgjagjpmlaaRecNm
import Derived.Test.YtamkdgjagjpmlaaAm17
namespace Go.Am
set_option linter.unusedVariables false
theorem wmp_any {n m : Nat} {σ : Sig} (hσ : ∀ t, t < n → σ t = some t) (h : n ≤ m) {v w : Value} (hv : WMP (sg n []) n v w) : WMP σ m v w := by
  cases v with
  | pointer a =>
    cases a with
    | none => exact hv.elim
    | some ad =>
      obtain ⟨h1, s, h2, h3⟩ := hv
      have h4 : ad.block < m := by omega
      have : s = ad.block := by simp [sg, h1] at h2; exact h2.symm
      subst this
      exact ⟨h4, _, hσ _ h1, h3⟩
  | _ => exact hv.elim
theorem wm_any {n m : Nat} {σ : Sig} (hσ : ∀ t, t < n → σ t = some t) (h : n ≤ m) {v w : Value} (hv : WM (sg n []) n v w) : WM σ m v w := by
  cases v with
  | pointer a =>
    cases a with
    | none => exact hv
    | some ad =>
      obtain ⟨h1, s, h2, h3⟩ := hv
      have h4 : ad.block < m := by omega
      have : s = ad.block := by simp [sg, h1] at h2; exact h2.symm
      subst this
      exact ⟨h4, _, hσ _ h1, h3⟩
  | slice a k c =>
    cases a with
    | none => exact hv
    | some ad =>
      obtain ⟨h1, hv⟩ := hv
      have h4 : ad.block < m := by omega
      refine ⟨h4, ?_⟩
      rcases hv with ⟨s, c0, h2, h3⟩ | hv
      · have : s = ad.block := by simp [sg, h1] at h2; exact h2.symm
        subst this
        exact .inl ⟨_, c0, hσ _ h1, h3⟩
      · exact absurd hv.1 (by simp [sg, h1])
  | func fn first cap =>
    obtain ⟨cap', h1, h2⟩ := hv
    exact ⟨cap', h1, h2.mono fun x y => wmp_any hσ h⟩
  | _ => exact hv
theorem VK.mk' {H K L L' : Heap} (h : VK H K) (js : List (Option Nat)) (hj : jsOk js = true) (hw : wkL (sg K.length js) (K.length + L'.length) L L' js) : Weak H (sg K.length js) (K ++ L') (K ++ L) := by
  have w := weak_mk js hj hw
  have hl := h.1
  have hs : ∀ t, t < K.length → sg K.length js t = some t := fun t ht => w.fix_ t ht
  refine ⟨Nat.le_trans hl w.len, fun t ht => w.fix_ t (by omega), fun t b' hb => ?_, w.inj⟩
  rcases w.blk t b' hb with ⟨h1, h2, h3⟩ | h2 | h3
  · rcases h.2 t b' h3 with ⟨g1, g2⟩ | g1
    · exact .inl ⟨g1, h2, g2⟩
    · refine .inr (.inr ⟨t, b', b'.xs.length, hs t h1, h2, rfl, rfl, id, ?_⟩)
      rw [List.take_length]
      exact g1.mono fun x y => wm_any hs (by simp)
  · exact .inr (.inl h2)
  · exact .inr (.inr h3)
theorem weakS_vmk {H K L L' : Heap} {fr fr' : Fr} (h : VK H K) (js : List (Option Nat)) (hj : jsOk js = true) (hw : wkL (sg K.length js) (K.length + L'.length) L L' js) (hf : FrW (sg K.length js) (K.length + L'.length) fr' fr) : WeakS H fr' (K ++ L') fr (K ++ L) :=
  ⟨_, h.mk' js hj hw, by simpa using hf⟩
theorem fin_vmk {H K L L' : Heap} {v vf : Value} (h : VK H K) (js : List (Option Nat)) (hj : jsOk js = true) (hw : wkL (sg K.length js) (K.length + L'.length) L L' js) (hf : WS (sg K.length js) (K.length + L'.length) v vf) : WeakV H v (K ++ L') vf (K ++ L) :=
  ⟨_, h.mk' js hj hw, by simpa using hf⟩
/-- what was made behind the caller's blocks is dropped -/
theorem fin_kq {H G : Heap} {v vf : Value} (h : ∀ t, t < H.length → G.get t = H.get t) (hf : WS (sg H.length []) H.length v vf) : WeakV H v H vf G := by
  refine ⟨sg H.length [], ⟨Nat.le_refl _, fun t ht => by simp only [sg, ht, if_true], fun t b' hb => ?_, fun t t' s b b' hne h1 h2 => ?_⟩, hf⟩
  · have ht := Heap.get_lt hb
    exact .inl ⟨ht, (h t ht).trans hb, hb⟩
  · have e : ∀ t s, sg H.length [] t = some s → s = t := by
      intro t s h
      unfold sg at h
      split at h
      · injection h with h; exact h.symm
      · simp at h
    exact absurd ((e _ _ h1).symm.trans (e _ _ h2)) hne
end Go.Am
namespace Go.Proofs.Ytamkdgjagjpmlaa
open Go.Am
set_option linter.unusedVariables false
set_option linter.unusedSimpArgs false
set_option maxRecDepth 100000
/-- a row: where it lies, its capacity as it is told, its numbers -/
abbrev Rw := Nat × Nat × List Int
def rwE (r : Rw) : List Value := [.slice (some ⟨r.1, 0, none⟩) r.2.2.length r.2.1]
abbrev rw0 : Rw := (0, 0, [])
theorem rwE_length (R : List Rw) : (R.flatMap rwE).length = R.length := by
  rw [flatMap_length rwE 1 (fun _ => rfl)]; omega
theorem rwE_snoc (R : List Rw) (r : Rw) : (R ++ [r]).flatMap rwE = R.flatMap rwE ++ rwE r := by rw [List.flatMap_append]; simp
structure RowsAt (H : Heap) (b0 u : Nat) (R : List Rw) : Prop where
  sp : H.get u = some ⟨R.flatMap rwE, true, 26, 1⟩
  lo : b0 ≤ u
  row : ∀ r ∈ R, b0 ≤ r.1 ∧ r.1 ≠ u ∧ H.get r.1 = some ⟨r.2.2.flatMap nmE, true, 3, 1⟩
  dif : (R.map (·.1)).Nodup
theorem RowsAt.nil {H : Heap} {b0 u : Nat} (h : H.get u = some ⟨[], true, 26, 1⟩) (hb : b0 ≤ u) : RowsAt H b0 u [] := ⟨h, hb, fun r hr => absurd hr (by simp), by simp⟩
theorem RowsAt.le {H : Heap} {b0 b1 u : Nat} {R : List Rw} (h : RowsAt H b0 u R) (hb : b1 ≤ b0) : RowsAt H b1 u R :=
  ⟨h.sp, Nat.le_trans hb h.lo, fun r hr => ⟨Nat.le_trans hb (h.row r hr).1, (h.row r hr).2⟩, h.dif⟩
/-- another heap that says the same of the blocks from b0 on -/
theorem RowsAt.of {H G : Heap} {b0 u : Nat} {R : List Rw} (h : RowsAt H b0 u R) (hk : ∀ t, b0 ≤ t → t < H.length → G.get t = H.get t) : RowsAt G b0 u R :=
  ⟨(hk _ h.lo (Heap.get_lt h.sp)).trans h.sp, h.lo, fun r hr => ⟨(h.row r hr).1, (h.row r hr).2.1, (hk _ (h.row r hr).1 (Heap.get_lt (h.row r hr).2.2)).trans (h.row r hr).2.2⟩, h.dif⟩
theorem RowsAt.kq {H G : Heap} {b0 u : Nat} {R : List Rw} (h : RowsAt H b0 u R) (k : KQ H G) : RowsAt G b0 u R := h.of fun t _ ht => k.2 t ht
theorem RowsAt.sl {H : Heap} {b0 u : Nat} {R : List Rw} (h : RowsAt H b0 u R) : Sl rwE H u R := ⟨_, [], h.sp, by simp⟩
theorem RowsAt.lt {H : Heap} {b0 u : Nat} {R : List Rw} (h : RowsAt H b0 u R) : u < H.length := Heap.get_lt h.sp
theorem getD_mem {α : Type} {d : α} {R : List α} {k : Nat} (hk : k < R.length) : R.getD k d ∈ R := by
  rw [List.getD_eq_getElem?_getD, List.getElem?_eq_getElem hk]; exact List.getElem_mem _
theorem RowsAt.at {H : Heap} {b0 u : Nat} {R : List Rw} (h : RowsAt H b0 u R) {k : Nat} (hk : k < R.length) : Sl nmE H (R.getD k rw0).1 (R.getD k rw0).2.2 :=
  ⟨_, [], (h.row _ (getD_mem hk)).2.2, by simp⟩
theorem RowsAt.rlt {H : Heap} {b0 u : Nat} {R : List Rw} (h : RowsAt H b0 u R) {r : Rw} (hr : r ∈ R) : r.1 < H.length := Heap.get_lt (h.row r hr).2.2
theorem get_unset {H : Heap} {t u : Nat} (h : t ≠ u) : Heap.get (H.set u none) t = Heap.get H t := Heap.get_set_ne h
theorem cells_of {H G : Heap} {t o n : Nat} (h : G.get t = H.get t) : aCells G ⟨t, o, none⟩ n = aCells H ⟨t, o, none⟩ n := by
  rw [aCells_eq, aCells_eq, h]
theorem _root_.Go.Am.VK.unset {H K : Heap} {u : Nat} (h : VK H K) : VK H (K.set u none) := by
  refine ⟨by simpa using h.1, fun t b hb => ?_⟩
  rw [Heap.get_set] at hb
  split at hb
  · split at hb <;> cases hb
  · simpa using h.2 t b hb
/-- a row more: the row and the new spine lie behind, the old spine is no more -/
theorem RowsAt.snoc {H : Heap} {b0 u c : Nat} {R : List Rw} {l : List Int} (h : RowsAt H b0 u R) (hb : b0 ≤ H.length) : RowsAt (H.set u none ++ [some ⟨l.flatMap nmE, true, 3, 1⟩, some ⟨(R ++ [(H.length, c, l)]).flatMap rwE, true, 26, 1⟩]) b0 (H.length + 1) (R ++ [(H.length, c, l)]) := by
  have hl : (H.set u none).length = H.length := by simp
  refine ⟨by rw [← hl]; exact (Heap.get_len_add _ _ 1).trans rfl, by omega, fun r hr => ?_, ?_⟩
  · rcases List.mem_append.1 hr with hr | hr
    · have h1 := h.row r hr
      have h2 := h.rlt hr
      exact ⟨h1.1, by omega, (Heap.get_append_left (by rw [hl]; exact h2)).trans ((get_unset h1.2.1).trans h1.2.2)⟩
    · rw [List.mem_singleton] at hr
      subst hr
      refine ⟨hb, by show H.length ≠ H.length + 1; omega, ?_⟩
      show Heap.get _ H.length = _
      rw [← hl]
      exact (Heap.get_len_add _ _ 0).trans rfl
  · rw [List.map_append, List.nodup_append]
    refine ⟨h.dif, by simp, fun a ha b hb e => ?_⟩
    obtain ⟨r, hr, rfl⟩ := List.mem_map.1 ha
    have h2 := h.rlt hr
    simp only [List.map_cons, List.map_nil, List.mem_singleton] at hb
    omega
/-- the spine says of its addresses what it says -/
theorem wm_rows {R : List Rw} {n m : Nat} {σ : Sig} (hσ : ∀ t, t < n → σ t = some t) (h : n ≤ m) (hR : ∀ r ∈ R, r.1 < n) : L2 (WM σ m) (R.flatMap rwE) (R.flatMap rwE) := by
  refine L2.refl fun x hx => ?_
  obtain ⟨r, hr, hx⟩ := List.mem_flatMap.1 hx
  rw [rwE, List.mem_singleton] at hx
  subst hx
  have := hR r hr
  exact ⟨by show r.1 < m; omega, .inl ⟨r.1, r.2.1, hσ _ this, rfl⟩⟩
theorem vk_rows {H K : Heap} {b0 u c : Nat} {R : List Rw} {l : List Int} (h : VK H K) (hR : RowsAt K b0 u R) : VK H (K.set u none ++ [some ⟨l.flatMap nmE, true, 3, 1⟩, some ⟨(R ++ [(K.length, c, l)]).flatMap rwE, true, 26, 1⟩]) := by
  have hl : (K.set u none).length = K.length := by simp
  have h1 := VK.snoc (K := K.set u none) (b := ⟨l.flatMap nmE, true, 3, 1⟩) (L2.refl fun x hx => WM_flat (List.all_eq_true.1 (nmE_flat _) x hx))
  have h2 := VK.snoc (K := K.set u none ++ [some ⟨l.flatMap nmE, true, 3, 1⟩]) (b := ⟨(R ++ [(K.length, c, l)]).flatMap rwE, true, 26, 1⟩)
    (wm_rows (n := K.length + 2) (fun t ht => by simp [sg]; omega) (by simp) fun r hr => by
      rcases List.mem_append.1 hr with hr | hr
      · have := hR.rlt hr; omega
      · rw [List.mem_singleton] at hr; subst hr; simp only; omega)
  have := (h.unset.trans h1).trans h2
  rwa [List.append_assoc] at this
end Go.Proofs.Ytamkdgjagjpmlaa
