/- RwL, NwI, NwS, RecAl, LawV, NwSS, Turn, FnWetting, in one text. -/
import Derived.Test.YtncblopbcnkinaaRecNm
import Derived.Test.YtncblopbcnkinaaAm17
import Derived.Test.YtncblopbcnkinaaWeM3
import Derived.Test.YtncblopbcnkinaaFacts
import Derived.Test.YtncblopbcnkinaaAm14
import Derived.Test.YtncblopbcnkinaaWeM2
/- Lists of lists of numbers in a heap: a spine that holds addresses of rows. -/
namespace Go.Am
set_option linter.unusedVariables false
theorem wmp_any {n m : Nat} {σ : Sig} (hσ : ∀ t, t < n → σ t = some t) (h : n ≤ m) {v w : Value} (hv : WMP (sg n []) n v w) : WMP σ m v w := by
  cases v with
  | pointer a =>
    cases a with
    | none => exact hv.elim
    | some ad =>
      obtain ⟨h1, s, h2, h3⟩ := hv
      have h4 : ad.block < m := by omega
      have : s = ad.block := by simp [sg, h1] at h2; exact h2.symm
      subst this
      exact ⟨h4, _, hσ _ h1, h3⟩
  | _ => exact hv.elim
theorem wm_any {n m : Nat} {σ : Sig} (hσ : ∀ t, t < n → σ t = some t) (h : n ≤ m) {v w : Value} (hv : WM (sg n []) n v w) : WM σ m v w := by
  cases v with
  | pointer a =>
    cases a with
    | none => exact hv
    | some ad =>
      obtain ⟨h1, s, h2, h3⟩ := hv
      have h4 : ad.block < m := by omega
      have : s = ad.block := by simp [sg, h1] at h2; exact h2.symm
      subst this
      exact ⟨h4, _, hσ _ h1, h3⟩
  | slice a k c =>
    cases a with
    | none => exact hv
    | some ad =>
      obtain ⟨h1, hv⟩ := hv
      have h4 : ad.block < m := by omega
      refine ⟨h4, ?_⟩
      rcases hv with ⟨s, c0, h2, h3⟩ | hv
      · have : s = ad.block := by simp [sg, h1] at h2; exact h2.symm
        subst this
        exact .inl ⟨_, c0, hσ _ h1, h3⟩
      · exact absurd hv.1 (by simp [sg, h1])
  | func fn first cap =>
    obtain ⟨cap', h1, h2⟩ := hv
    exact ⟨cap', h1, h2.mono fun x y => wmp_any hσ h⟩
  | _ => exact hv
theorem VK.mk' {H K L L' : Heap} (h : VK H K) (js : List (Option Nat)) (hj : jsOk js = true) (hw : wkL (sg K.length js) (K.length + L'.length) L L' js) : Weak H (sg K.length js) (K ++ L') (K ++ L) := by
  have w := weak_mk js hj hw
  have hl := h.1
  have hs : ∀ t, t < K.length → sg K.length js t = some t := fun t ht => w.fix_ t ht
  refine ⟨Nat.le_trans hl w.len, fun t ht => w.fix_ t (by omega), fun t b' hb => ?_, w.inj⟩
  rcases w.blk t b' hb with ⟨h1, h2, h3⟩ | h2 | h3
  · rcases h.2 t b' h3 with ⟨g1, g2⟩ | g1
    · exact .inl ⟨g1, h2, g2⟩
    · refine .inr (.inr ⟨t, b', b'.xs.length, hs t h1, h2, rfl, rfl, id, ?_⟩)
      rw [List.take_length]
      exact g1.mono fun x y => wm_any hs (by simp)
  · exact .inr (.inl h2)
  · exact .inr (.inr h3)
theorem weakS_vmk {H K L L' : Heap} {fr fr' : Fr} (h : VK H K) (js : List (Option Nat)) (hj : jsOk js = true) (hw : wkL (sg K.length js) (K.length + L'.length) L L' js) (hf : FrW (sg K.length js) (K.length + L'.length) fr' fr) : WeakS H fr' (K ++ L') fr (K ++ L) :=
  ⟨_, h.mk' js hj hw, by simpa using hf⟩
theorem fin_vmk {H K L L' : Heap} {v vf : Value} (h : VK H K) (js : List (Option Nat)) (hj : jsOk js = true) (hw : wkL (sg K.length js) (K.length + L'.length) L L' js) (hf : WS (sg K.length js) (K.length + L'.length) v vf) : WeakV H v (K ++ L') vf (K ++ L) :=
  ⟨_, h.mk' js hj hw, by simpa using hf⟩
/-- what was made behind the caller's blocks is dropped -/
theorem fin_kq {H G : Heap} {v vf : Value} (h : ∀ t, t < H.length → G.get t = H.get t) (hf : WS (sg H.length []) H.length v vf) : WeakV H v H vf G := by
  refine ⟨sg H.length [], ⟨Nat.le_refl _, fun t ht => by simp only [sg, ht, if_true], fun t b' hb => ?_, fun t t' s b b' hne h1 h2 => ?_⟩, hf⟩
  · have ht := Heap.get_lt hb
    exact .inl ⟨ht, (h t ht).trans hb, hb⟩
  · have e : ∀ t s, sg H.length [] t = some s → s = t := by
      intro t s h
      unfold sg at h
      split at h
      · injection h with h; exact h.symm
      · simp at h
    exact absurd ((e _ _ h1).symm.trans (e _ _ h2)) hne
end Go.Am
namespace Go.Proofs.Ytncblopbcnkinaa
open Go.Am
set_option linter.unusedVariables false
set_option linter.unusedSimpArgs false
set_option maxRecDepth 100000
/-- a row: where it lies, its capacity as it is told, its numbers -/
abbrev Rw := Nat × Nat × List Int
def rwE (r : Rw) : List Value := [.slice (some ⟨r.1, 0, none⟩) r.2.2.length r.2.1]
abbrev rw0 : Rw := (0, 0, [])
theorem rwE_length (R : List Rw) : (R.flatMap rwE).length = R.length := by
  rw [flatMap_length rwE 1 (fun _ => rfl)]; omega
theorem rwE_snoc (R : List Rw) (r : Rw) : (R ++ [r]).flatMap rwE = R.flatMap rwE ++ rwE r := by rw [List.flatMap_append]; simp
structure RowsAt (H : Heap) (b0 u : Nat) (R : List Rw) : Prop where
  sp : H.get u = some ⟨R.flatMap rwE, true, 24, 1⟩
  lo : b0 ≤ u
  row : ∀ r ∈ R, b0 ≤ r.1 ∧ r.1 ≠ u ∧ H.get r.1 = some ⟨r.2.2.flatMap nmE, true, 3, 1⟩
  dif : (R.map (·.1)).Nodup
theorem RowsAt.nil {H : Heap} {b0 u : Nat} (h : H.get u = some ⟨[], true, 24, 1⟩) (hb : b0 ≤ u) : RowsAt H b0 u [] := ⟨h, hb, fun r hr => absurd hr (by simp), by simp⟩
theorem RowsAt.le {H : Heap} {b0 b1 u : Nat} {R : List Rw} (h : RowsAt H b0 u R) (hb : b1 ≤ b0) : RowsAt H b1 u R :=
  ⟨h.sp, Nat.le_trans hb h.lo, fun r hr => ⟨Nat.le_trans hb (h.row r hr).1, (h.row r hr).2⟩, h.dif⟩
/-- another heap that says the same of the blocks from b0 on -/
theorem RowsAt.of {H G : Heap} {b0 u : Nat} {R : List Rw} (h : RowsAt H b0 u R) (hk : ∀ t, b0 ≤ t → t < H.length → G.get t = H.get t) : RowsAt G b0 u R :=
  ⟨(hk _ h.lo (Heap.get_lt h.sp)).trans h.sp, h.lo, fun r hr => ⟨(h.row r hr).1, (h.row r hr).2.1, (hk _ (h.row r hr).1 (Heap.get_lt (h.row r hr).2.2)).trans (h.row r hr).2.2⟩, h.dif⟩
theorem RowsAt.kq {H G : Heap} {b0 u : Nat} {R : List Rw} (h : RowsAt H b0 u R) (k : KQ H G) : RowsAt G b0 u R := h.of fun t _ ht => k.2 t ht
theorem RowsAt.sl {H : Heap} {b0 u : Nat} {R : List Rw} (h : RowsAt H b0 u R) : Sl rwE H u R := ⟨_, [], h.sp, by simp⟩
theorem RowsAt.lt {H : Heap} {b0 u : Nat} {R : List Rw} (h : RowsAt H b0 u R) : u < H.length := Heap.get_lt h.sp
theorem getD_mem {α : Type} {d : α} {R : List α} {k : Nat} (hk : k < R.length) : R.getD k d ∈ R := by
  rw [List.getD_eq_getElem?_getD, List.getElem?_eq_getElem hk]; exact List.getElem_mem _
theorem RowsAt.at {H : Heap} {b0 u : Nat} {R : List Rw} (h : RowsAt H b0 u R) {k : Nat} (hk : k < R.length) : Sl nmE H (R.getD k rw0).1 (R.getD k rw0).2.2 :=
  ⟨_, [], (h.row _ (getD_mem hk)).2.2, by simp⟩
theorem RowsAt.rlt {H : Heap} {b0 u : Nat} {R : List Rw} (h : RowsAt H b0 u R) {r : Rw} (hr : r ∈ R) : r.1 < H.length := Heap.get_lt (h.row r hr).2.2
theorem get_unset {H : Heap} {t u : Nat} (h : t ≠ u) : Heap.get (H.set u none) t = Heap.get H t := Heap.get_set_ne h
theorem cells_of {H G : Heap} {t o n : Nat} (h : G.get t = H.get t) : aCells G ⟨t, o, none⟩ n = aCells H ⟨t, o, none⟩ n := by
  rw [aCells_eq, aCells_eq, h]
theorem _root_.Go.Am.VK.unset {H K : Heap} {u : Nat} (h : VK H K) : VK H (K.set u none) := by
  refine ⟨by simpa using h.1, fun t b hb => ?_⟩
  rw [Heap.get_set] at hb
  split at hb
  · split at hb <;> cases hb
  · simpa using h.2 t b hb
/-- a row more: the row and the new spine lie behind, the old spine is no more -/
theorem RowsAt.snoc {H : Heap} {b0 u c : Nat} {R : List Rw} {l : List Int} (h : RowsAt H b0 u R) (hb : b0 ≤ H.length) : RowsAt (H.set u none ++ [some ⟨l.flatMap nmE, true, 3, 1⟩, some ⟨(R ++ [(H.length, c, l)]).flatMap rwE, true, 24, 1⟩]) b0 (H.length + 1) (R ++ [(H.length, c, l)]) := by
  have hl : (H.set u none).length = H.length := by simp
  refine ⟨by rw [← hl]; exact (Heap.get_len_add _ _ 1).trans rfl, by omega, fun r hr => ?_, ?_⟩
  · rcases List.mem_append.1 hr with hr | hr
    · have h1 := h.row r hr
      have h2 := h.rlt hr
      exact ⟨h1.1, by omega, (Heap.get_append_left (by rw [hl]; exact h2)).trans ((get_unset h1.2.1).trans h1.2.2)⟩
    · rw [List.mem_singleton] at hr
      subst hr
      refine ⟨hb, by show H.length ≠ H.length + 1; omega, ?_⟩
      show Heap.get _ H.length = _
      rw [← hl]
      exact (Heap.get_len_add _ _ 0).trans rfl
  · rw [List.map_append, List.nodup_append]
    refine ⟨h.dif, by simp, fun a ha b hb e => ?_⟩
    obtain ⟨r, hr, rfl⟩ := List.mem_map.1 ha
    have h2 := h.rlt hr
    simp only [List.map_cons, List.map_nil, List.mem_singleton] at hb
    omega
/-- the spine says of its addresses what it says -/
theorem wm_rows {R : List Rw} {n m : Nat} {σ : Sig} (hσ : ∀ t, t < n → σ t = some t) (h : n ≤ m) (hR : ∀ r ∈ R, r.1 < n) : L2 (WM σ m) (R.flatMap rwE) (R.flatMap rwE) := by
  refine L2.refl fun x hx => ?_
  obtain ⟨r, hr, hx⟩ := List.mem_flatMap.1 hx
  rw [rwE, List.mem_singleton] at hx
  subst hx
  have := hR r hr
  exact ⟨by show r.1 < m; omega, .inl ⟨r.1, r.2.1, hσ _ this, rfl⟩⟩
theorem vk_rows {H K : Heap} {b0 u c : Nat} {R : List Rw} {l : List Int} (h : VK H K) (hR : RowsAt K b0 u R) : VK H (K.set u none ++ [some ⟨l.flatMap nmE, true, 3, 1⟩, some ⟨(R ++ [(K.length, c, l)]).flatMap rwE, true, 24, 1⟩]) := by
  have hl : (K.set u none).length = K.length := by simp
  have h1 := VK.snoc (K := K.set u none) (b := ⟨l.flatMap nmE, true, 3, 1⟩) (L2.refl fun x hx => WM_flat (List.all_eq_true.1 (nmE_flat _) x hx))
  have h2 := VK.snoc (K := K.set u none ++ [some ⟨l.flatMap nmE, true, 3, 1⟩]) (b := ⟨(R ++ [(K.length, c, l)]).flatMap rwE, true, 24, 1⟩)
    (wm_rows (n := K.length + 2) (fun t ht => by simp [sg]; omega) (by simp) fun r hr => by
      rcases List.mem_append.1 hr with hr | hr
      · have := hR.rlt hr; omega
      · rw [List.mem_singleton] at hr; subst hr; simp only; omega)
  have := (h.unset.trans h1).trans h2
  rwa [List.append_assoc] at this
end Go.Proofs.Ytncblopbcnkinaa
/- NewlyWet as the program walks. -/
namespace Go.Proofs.Ytncblopbcnkinaa
open Go.Am
set_option linter.unusedVariables false
set_option linter.unusedSimpArgs false
set_option maxRecDepth 100000
set_option maxHeartbeats 8000000
/-- what NewlyWet hands out -/
def NwOut (H : Heap) (W : List (List Int)) (v : Value) (G : Heap) : Prop :=
  ∃ (R : List Rw) (u : Nat), v = .tuple #[.slice (some ⟨u, 0, none⟩) R.length 0, .bool true] ∧ R.map (·.2.2) = W ∧ RowsAt G H.length u R ∧ VK H G ∧ KQ H G
structure NwSt where
  k : Nat
  u : Nat
  R : List Rw
  G : Heap
structure NwInv (n : Int) (ps : List Pp) (l : List Vl) (src : Int) (a : List Int) (tp cp : Nat) (H : Heap) (i : NwSt) : Prop where
  le : i.k ≤ a.length
  rl : i.R.length = i.k
  rw : i.R.map (·.2.2) = nwL n ps l src a i.k
  rows : RowsAt i.G (H.length + 1) i.u i.R
  vk : VK H i.G
  kq : KQ H i.G
  net : aCells i.G ⟨H.length, 0, none⟩ 2 = some [.int .i64 n, .slice (some ⟨tp, 0, none⟩) ps.length cp]
  net0 : aCells i.G ⟨H.length, 0, none⟩ 1 = some [.int .i64 n]
  lt : H.length < i.G.length
theorem NwInv.start (n : Int) (ps : List Pp) (l : List Vl) (src : Int) (a : List Int) (tp cp : Nat) (H : Heap) (ht : tp < H.length) :
    NwInv n ps l src a tp cp H ⟨0, H.length + 1, [], H ++ [some ⟨[.int .i64 n, .slice (some ⟨tp, 0, none⟩) ps.length cp], true, 46, 1⟩, some ⟨[], true, 24, 1⟩]⟩ := by
  refine ⟨by simp, rfl, rfl, RowsAt.nil ((Heap.get_len_add _ _ 1).trans rfl) (Nat.le_refl _), ?_, KQ.app, by simp -dsimp -implicitDefEqProofs (disch := omega) [go_sem, -List.getD_eq_getElem?_getD, ite_yes], by simp -dsimp -implicitDefEqProofs (disch := omega) [go_sem, -List.getD_eq_getElem?_getD, ite_yes], by simp⟩
  have h1 := VK.snoc (K := H) (b := ⟨[.int .i64 n, .slice (some ⟨tp, 0, none⟩) ps.length cp], true, 46, 1⟩) (wm_net (h := H.length) ht _ _ (fun t ht => by simp [sg]; omega) (by omega))
  have h2 := VK.snoc (K := H ++ [some ⟨[.int .i64 n, .slice (some ⟨tp, 0, none⟩) ps.length cp], true, 46, 1⟩]) (b := ⟨[], true, 24, 1⟩) trivial
  have := h1.trans h2
  rwa [List.append_assoc] at this
theorem NwInv.next {n : Int} {ps : List Pp} {l : List Vl} {src : Int} {a : List Int} {tp cp : Nat} {H : Heap} {i : NwSt} (h : NwInv n ps l src a tp cp H i) (hk : i.k < a.length) (c : Nat) :
    NwInv n ps l src a tp cp H ⟨i.k + 1, i.G.length + 1, i.R ++ [(i.G.length, c, nwF n ps l src a i.k)], i.G.set i.u none ++ [some ⟨(nwF n ps l src a i.k).flatMap nmE, true, 3, 1⟩, some ⟨(i.R ++ [(i.G.length, c, nwF n ps l src a i.k)]).flatMap rwE, true, 24, 1⟩]⟩ := by
  have h1 := h.lt
  have h2 := h.rows.lo
  have hl : (i.G.set i.u none).length = i.G.length := by simp
  have hg : ∀ t, t < i.G.length → t ≠ i.u → Heap.get (i.G.set i.u none ++ [some ⟨(nwF n ps l src a i.k).flatMap nmE, true, 3, 1⟩, some ⟨(i.R ++ [(i.G.length, c, nwF n ps l src a i.k)]).flatMap rwE, true, 24, 1⟩]) t = i.G.get t := fun t ht hu => (Heap.get_append_left (by rw [hl]; exact ht)).trans (get_unset hu)
  refine ⟨by show i.k + 1 ≤ a.length; omega, by simp [h.rl], by simp [h.rw, nwL], h.rows.snoc (by omega), vk_rows h.vk h.rows, ⟨by have := h.kq.1; simp; omega, fun t ht => (hg t (by omega) (by omega)).trans (h.kq.2 t ht)⟩, ?_, ?_, by simp; omega⟩
  · exact (cells_of (hg _ h1 (by omega))).trans h.net
  · exact (cells_of (hg _ h1 (by omega))).trans h.net0
theorem rwE_map (R : List Rw) : R.map (fun r : Rw => Value.slice (some ⟨r.1, 0, none⟩) r.2.2.length r.2.1) = R.flatMap rwE := by
  induction R with
  | nil => rfl
  | cons x l ih => rw [List.map_cons, List.flatMap_cons, ih]; rfl
/-- the new spine is the old one and a row more, however the blocks are numbered -/
theorem wl_spine {K : Heap} {c d p : Nat} {R : List Rw} {l : List Int} {js : List (Option Nat)} {q : Nat} (hR : ∀ r ∈ R, r.1 < K.length) (hj : sg K.length js K.length = some (K.length + p)) (hs : ∀ t, t < K.length → sg K.length js t = some t) (hq : 1 ≤ q) :
    WL (sg K.length js) (K.length + q) (R.flatMap rwE ++ rwE (K.length, c, l)) (R.flatMap rwE ++ [.slice (some ⟨K.length + p, 0, none⟩) l.length d]) := by
  have h1 : L2 (WM (sg K.length js) (K.length + q)) (R.flatMap rwE) (R.flatMap rwE) := wm_rows (n := K.length) hs (by omega) hR
  have h2 : L2 (WM (sg K.length js) (K.length + q)) [Value.slice (some ⟨K.length, 0, none⟩) l.length c] [Value.slice (some ⟨K.length + p, 0, none⟩) l.length d] :=
    ⟨⟨by show K.length < K.length + q; omega, .inl ⟨_, d, hj, rfl⟩⟩, trivial⟩
  refine .inr ?_
  rw [List.take_of_length_le (by simp [rwE])]
  exact h1.append h2
theorem iNewly_R (n : Int) (ps : List Pp) (cp : Nat) (l : List Vl) (c : Nat) (src : Int) (a : List Int) (ho : isOrd n ps l src a = true) (d : Nat) (H : Heap) (tp t u : Nat) (hP : Sl ppE H tp ps) (hS : Sl vlE H t l) (hU : Sl nmE H u a) :
    AFunR Try.prog 24 [netV n tp ps.length cp, .slice (some ⟨t, 0, none⟩) l.length c, .int .i64 src, .slice (some ⟨u, 0, none⟩) a.length d] H (NwOut H (nwL n ps l src a a.length)) := by
  refine AFunR.of_body Try.func24 (by kernel_rfl) rfl (by kernel_rfl) (by simp [Try.ntmps24]) ?_
  have htp := hP.lt
  have ht := hS.lt
  have hu := hU.lt
  have ho' := ho
  unfold isOrd at ho'
  rw [Bool.and_eq_true] at ho'
  obtain ⟨hq, hob⟩ := ho'
  obtain ⟨hg, hN, hl10, hsrc, hs6⟩ := askR_at hq
  have hpl := hN.f_len
  have hn := hN.f_n
  have hperm := ordB_perm hob
  have hal := hperm.length_eq
  simp -dsimp -implicitDefEqProofs (disch := omega) [go_sem, -List.getD_eq_getElem?_getD, ite_yes, htp, ht, hu]
  refine ACall.of (iIsOrder_A n ps (by omega) cp l (by omega) c src a (by omega) d _ tp t u hP.app hS.app hU.app) ?_
  simp -dsimp -implicitDefEqProofs (disch := omega) [go_sem, -List.getD_eq_getElem?_getD, ite_yes, ho, htp, ht, hu]
  refine ALoop.intro (ι := NwSt) (fun i => NwInv n ps l src a tp cp H i) (fun i => [(1, .slice (some ⟨t, 0, none⟩) l.length c), (2, .int .i64 src), (3, .slice (some ⟨u, 0, none⟩) a.length d), (4, .pointer (some ⟨H.length, 0, none⟩)), (10, .slice (some ⟨i.u, 0, none⟩) i.R.length 0), (24, .int .i64 a.length), (25, .int .i64 i.k)]) (fun i => i.G) (fun i => a.length - i.k) _ (NwInv.start n ps l src a tp cp H htp) ?_ ?_
  · exact weakS_vk (NwInv.start n ps l src a tp cp H htp).vk (by simp -dsimp -implicitDefEqProofs (disch := omega) [go_sem, -List.getD_eq_getElem?_getD, ite_yes, htp, ht, hu])
  intro i hi
  have nx := fun hk => hi.next hk 0
  obtain ⟨k, us, R, G⟩ := i
  have hk := hi.le
  have hrl := hi.rl
  have hrows := hi.rows
  have hV := hi.vk
  have hQ := hi.kq
  have cnet := hi.net
  have cnet0 := hi.net0
  have klt := hi.lt
  have hrw := hi.rw
  simp only at hk hrl hrows hV hQ cnet cnet0 klt hrw nx ⊢
  have gtp : tp < G.length := by omega
  have gt : t < G.length := by omega
  have gu : u < G.length := by omega
  have gus := hrows.lt
  have gP := hQ.sl hP
  have gS := hQ.sl hS
  have gU := hQ.sl hU
  by_cases hlt : k < a.length
  rotate_left
  · obtain rfl : k = a.length := by omega
    simp -dsimp -implicitDefEqProofs (disch := omega) [go_sem, -List.getD_eq_getElem?_getD, ite_yes, hlt]
    exact EndR.of (.tuple #[.slice (some ⟨us, 0, none⟩) R.length 0, .bool true]) G ⟨R, us, rfl, hrw, hrows.le (by omega), hV, hQ⟩ (fin_vk hV (by simp -dsimp -implicitDefEqProofs (disch := omega) [go_sem, -List.getD_eq_getElem?_getD, ite_yes, gus]))
  have hk1 : ((k : Int) + 1).toNat = k + 1 := by omega
  have hki : (k : Int) + 1 ≤ (a.length : Int) := by omega
  have hlti : (k : Int) < (a.length : Int) := by omega
  have en : nwF n ps l src a k = nwTo (wetR ps (opL l (a.take k)) src) (wetR ps (opL l (a.take (k + 1))) src) n.toNat := rfl
  have o1 := wateredO_A n ps cp l hg 0 src hsrc (a.take k)
  have o2 := wateredO_A n ps cp l hg 0 src hsrc (a.take (k + 1))
  have hl1 := wetR_length hN (opL l (a.take k)) src
  have hl2 := wetR_length hN (opL l (a.take (k + 1))) src
  generalize nwF n ps l src a k = F at *
  generalize hRa : wetR ps (opL l (a.take k)) src = R1 at *
  generalize hRb : wetR ps (opL l (a.take (k + 1))) src = R2 at *
  simp -dsimp -implicitDefEqProofs (disch := omega) [go_sem, -List.getD_eq_getElem?_getD, ite_yes, hlt, hlti]
  refine ADraw.mid [(1, .slice (some ⟨t, 0, none⟩) l.length c), (2, .int .i64 src), (3, .slice (some ⟨u, 0, none⟩) a.length d), (4, .pointer (some ⟨H.length, 0, none⟩)), (10, .slice (some ⟨us, 0, none⟩) R.length 0), (24, .int .i64 a.length), (25, .int .i64 k), (12, .pointer (some ⟨G.length, 0, none⟩)), (13, .pointer (some ⟨G.length + 1, 0, none⟩))] (G ++ [some ⟨R1.map .bool, true, 124, 1⟩, some ⟨R2.map .bool, true, 124, 1⟩]) ?_ ?_
  · skip
    refine ADraw.any G (by kernel_rfl) (SubH.refl) ?_
    refine AAny.takes (fuel := 8) (by kernel_rfl) (by kernel_rfl) [1, 2, 3, 4, 6, 9, 10, 11, 12, 13, 15] (by kernel_rfl) (by kernel_rfl) ?_
    simp -dsimp -implicitDefEqProofs (disch := omega) [go_sem, -List.getD_eq_getElem?_getD, ite_yes, hlt, hlti, hk1, hki, cnet, klt, gtp, gt, gu, gus]
    refine AAny.three 7 0 5 8 (by kernel_rfl) (by kernel_rfl) (by kernel_rfl) ?_ ?_ ?_
    · simp -dsimp -implicitDefEqProofs (disch := omega) [go_sem, -List.getD_eq_getElem?_getD, ite_yes, hlt, hlti, hk1, hki, cnet, klt, gtp, gt, gu, gus]
      first | refine AAt.of (by first | exact SubH.refl | exact SubH.app) ?_ | (refine ⟨?_, AAt.of (by first | exact SubH.refl | exact SubH.app) ?_⟩; · omega)
      refine AAny.two 6 5 8 (by kernel_rfl) (by kernel_rfl) (by kernel_rfl) ?_ ?_
      · simp -dsimp -implicitDefEqProofs (disch := omega) [go_sem, -List.getD_eq_getElem?_getD, ite_yes, hlt, hlti, hk1, hki, cnet, klt, gtp, gt, gu, gus]
        first | refine ACall.of (openedT_A l (by omega) c a k hk (by omega) k _ t u gS.app gU.app) ?_ | refine ACall.of (openedT_A l (by omega) c a k hk (by omega) k _ t u gS gU) ?_
        simp -dsimp -implicitDefEqProofs (disch := omega) [go_sem, -List.getD_eq_getElem?_getD, ite_yes, hlt, hlti, hk1, hki, cnet, klt, gtp, gt, gu, gus]
        first | refine AAt.of (by first | exact SubH.refl | exact SubH.app) ?_ | (refine ⟨?_, AAt.of (by first | exact SubH.refl | exact SubH.app) ?_⟩; · omega)
        refine AAny.two 5 7 8 (by kernel_rfl) (by kernel_rfl) (by kernel_rfl) ?_ ?_
        · simp -dsimp -implicitDefEqProofs (disch := omega) [go_sem, -List.getD_eq_getElem?_getD, ite_yes, hlt, hlti, hk1, hki, cnet, klt, gtp, gt, gu, gus]
          refine ACall.of (o1 _ tp _ gP.app (by first | exact Sl.of rfl | exact Sl.nth 1 rfl rfl | exact Sl.nth 2 rfl rfl)) ?_
          simp -dsimp -implicitDefEqProofs (disch := omega) [go_sem, -List.getD_eq_getElem?_getD, ite_yes, hlt, hlti, hk1, hki, cnet, klt, gtp, gt, gu, gus]
          first | refine AAt.of (by first | exact SubH.refl | exact SubH.app) ?_ | (refine ⟨?_, AAt.of (by first | exact SubH.refl | exact SubH.app) ?_⟩; · omega)
          refine AAny.two 4 8 14 (by kernel_rfl) (by kernel_rfl) (by kernel_rfl) ?_ ?_
          · simp -dsimp -implicitDefEqProofs (disch := omega) [go_sem, -List.getD_eq_getElem?_getD, ite_yes, hlt, hlti, hk1, hki, cnet, klt, gtp, gt, gu, gus]
            first | refine AAt.of (by first | exact SubH.refl | exact SubH.app) ?_ | (refine ⟨?_, AAt.of (by first | exact SubH.refl | exact SubH.app) ?_⟩; · omega)
            refine AAny.one 3 14 (by kernel_rfl) (by kernel_rfl) (by kernel_rfl) ?_
            simp -dsimp -implicitDefEqProofs (disch := omega) [go_sem, -List.getD_eq_getElem?_getD, ite_yes, hlt, hlti, hk1, hki, cnet, klt, gtp, gt, gu, gus]
            first | refine ACall.of (openedT_A l (by omega) c a (k + 1) hlt (by omega) (k + 1) _ t u gS.app gU.app) ?_ | refine ACall.of (openedT_A l (by omega) c a (k + 1) hlt (by omega) (k + 1) _ t u gS gU) ?_
            simp -dsimp -implicitDefEqProofs (disch := omega) [go_sem, -List.getD_eq_getElem?_getD, ite_yes, hlt, hlti, hk1, hki, cnet, klt, gtp, gt, gu, gus]
            first | refine AAt.of (by first | exact SubH.refl | exact SubH.app) ?_ | (refine ⟨?_, AAt.of (by first | exact SubH.refl | exact SubH.app) ?_⟩; · omega)
            refine AAny.one 2 16 (by kernel_rfl) (by kernel_rfl) (by kernel_rfl) ?_
            simp -dsimp -implicitDefEqProofs (disch := omega) [go_sem, -List.getD_eq_getElem?_getD, ite_yes, hlt, hlti, hk1, hki, cnet, klt, gtp, gt, gu, gus]
            refine ACall.of (o2 _ tp _ gP.app (by first | exact Sl.of rfl | exact Sl.nth 1 rfl rfl | exact Sl.nth 2 rfl rfl)) ?_
            simp -dsimp -implicitDefEqProofs (disch := omega) [go_sem, -List.getD_eq_getElem?_getD, ite_yes, hlt, hlti, hk1, hki, cnet, klt, gtp, gt, gu, gus]
            first | refine AAt.of (by first | exact SubH.refl | exact SubH.app) ?_ | (refine ⟨?_, AAt.of (by first | exact SubH.refl | exact SubH.app) ?_⟩; · omega)
            refine AAny.takes (fuel := 0) (by kernel_rfl) (by kernel_rfl) [17, 18] (by kernel_rfl) (by kernel_rfl) ?_
            simp -dsimp -implicitDefEqProofs (disch := omega) [go_sem, -List.getD_eq_getElem?_getD, ite_yes, hlt, hlti, hk1, hki, cnet, klt, gtp, gt, gu, gus]
            refine AAny.done (by kernel_rfl) ?_
            simp -dsimp -implicitDefEqProofs (disch := omega) [go_sem, -List.getD_eq_getElem?_getD, ite_yes, hlt, hlti, hk1, hki, cnet, klt, gtp, gt, gu, gus]
            first | exact ⟨weakS_vmk hV [some 1, some 3] rfl (by simp -dsimp -implicitDefEqProofs (disch := omega) [go_sem, -List.getD_eq_getElem?_getD, ite_yes]; exact ⟨.inl ⟨rfl, bl_flat _⟩, .inl ⟨rfl, bl_flat _⟩⟩) (by simp -dsimp -implicitDefEqProofs (disch := omega) [go_sem, -List.getD_eq_getElem?_getD, ite_yes, gtp, gt, gu, gus, klt])⟩ | exact ⟨weakS_vmk hV [some 2, some 3] rfl (by simp -dsimp -implicitDefEqProofs (disch := omega) [go_sem, -List.getD_eq_getElem?_getD, ite_yes]; exact ⟨.inl ⟨rfl, bl_flat _⟩, .inl ⟨rfl, bl_flat _⟩⟩) (by simp -dsimp -implicitDefEqProofs (disch := omega) [go_sem, -List.getD_eq_getElem?_getD, ite_yes, gtp, gt, gu, gus, klt])⟩ | exact ⟨weakS_vmk hV [some 3, some 2] rfl (by simp -dsimp -implicitDefEqProofs (disch := omega) [go_sem, -List.getD_eq_getElem?_getD, ite_yes]; exact ⟨.inl ⟨rfl, bl_flat _⟩, .inl ⟨rfl, bl_flat _⟩⟩) (by simp -dsimp -implicitDefEqProofs (disch := omega) [go_sem, -List.getD_eq_getElem?_getD, ite_yes, gtp, gt, gu, gus, klt])⟩ | exact ⟨weakS_vmk hV [some 3, some 1] rfl (by simp -dsimp -implicitDefEqProofs (disch := omega) [go_sem, -List.getD_eq_getElem?_getD, ite_yes]; exact ⟨.inl ⟨rfl, bl_flat _⟩, .inl ⟨rfl, bl_flat _⟩⟩) (by simp -dsimp -implicitDefEqProofs (disch := omega) [go_sem, -List.getD_eq_getElem?_getD, ite_yes, gtp, gt, gu, gus, klt])⟩
          · simp -dsimp -implicitDefEqProofs (disch := omega) [go_sem, -List.getD_eq_getElem?_getD, ite_yes, hlt, hlti, hk1, hki, cnet, klt, gtp, gt, gu, gus]
            first | refine ACall.of (openedT_A l (by omega) c a (k + 1) hlt (by omega) (k + 1) _ t u gS.app gU.app) ?_ | refine ACall.of (openedT_A l (by omega) c a (k + 1) hlt (by omega) (k + 1) _ t u gS gU) ?_
            simp -dsimp -implicitDefEqProofs (disch := omega) [go_sem, -List.getD_eq_getElem?_getD, ite_yes, hlt, hlti, hk1, hki, cnet, klt, gtp, gt, gu, gus]
            first | refine AAt.of (by first | exact SubH.refl | exact SubH.app) ?_ | (refine ⟨?_, AAt.of (by first | exact SubH.refl | exact SubH.app) ?_⟩; · omega)
            refine AAny.one 3 8 (by kernel_rfl) (by kernel_rfl) (by kernel_rfl) ?_
            simp -dsimp -implicitDefEqProofs (disch := omega) [go_sem, -List.getD_eq_getElem?_getD, ite_yes, hlt, hlti, hk1, hki, cnet, klt, gtp, gt, gu, gus]
            first | refine AAt.of (by first | exact SubH.refl | exact SubH.app) ?_ | (refine ⟨?_, AAt.of (by first | exact SubH.refl | exact SubH.app) ?_⟩; · omega)
            refine AAny.one 2 16 (by kernel_rfl) (by kernel_rfl) (by kernel_rfl) ?_
            simp -dsimp -implicitDefEqProofs (disch := omega) [go_sem, -List.getD_eq_getElem?_getD, ite_yes, hlt, hlti, hk1, hki, cnet, klt, gtp, gt, gu, gus]
            refine ACall.of (o2 _ tp _ gP.app (by first | exact Sl.of rfl | exact Sl.nth 1 rfl rfl | exact Sl.nth 2 rfl rfl)) ?_
            simp -dsimp -implicitDefEqProofs (disch := omega) [go_sem, -List.getD_eq_getElem?_getD, ite_yes, hlt, hlti, hk1, hki, cnet, klt, gtp, gt, gu, gus]
            first | refine AAt.of (by first | exact SubH.refl | exact SubH.app) ?_ | (refine ⟨?_, AAt.of (by first | exact SubH.refl | exact SubH.app) ?_⟩; · omega)
            refine AAny.takes (fuel := 0) (by kernel_rfl) (by kernel_rfl) [17, 18] (by kernel_rfl) (by kernel_rfl) ?_
            simp -dsimp -implicitDefEqProofs (disch := omega) [go_sem, -List.getD_eq_getElem?_getD, ite_yes, hlt, hlti, hk1, hki, cnet, klt, gtp, gt, gu, gus]
            refine AAny.done (by kernel_rfl) ?_
            simp -dsimp -implicitDefEqProofs (disch := omega) [go_sem, -List.getD_eq_getElem?_getD, ite_yes, hlt, hlti, hk1, hki, cnet, klt, gtp, gt, gu, gus]
            first | exact ⟨weakS_vmk hV [some 1, some 3] rfl (by simp -dsimp -implicitDefEqProofs (disch := omega) [go_sem, -List.getD_eq_getElem?_getD, ite_yes]; exact ⟨.inl ⟨rfl, bl_flat _⟩, .inl ⟨rfl, bl_flat _⟩⟩) (by simp -dsimp -implicitDefEqProofs (disch := omega) [go_sem, -List.getD_eq_getElem?_getD, ite_yes, gtp, gt, gu, gus, klt])⟩ | exact ⟨weakS_vmk hV [some 2, some 3] rfl (by simp -dsimp -implicitDefEqProofs (disch := omega) [go_sem, -List.getD_eq_getElem?_getD, ite_yes]; exact ⟨.inl ⟨rfl, bl_flat _⟩, .inl ⟨rfl, bl_flat _⟩⟩) (by simp -dsimp -implicitDefEqProofs (disch := omega) [go_sem, -List.getD_eq_getElem?_getD, ite_yes, gtp, gt, gu, gus, klt])⟩ | exact ⟨weakS_vmk hV [some 3, some 2] rfl (by simp -dsimp -implicitDefEqProofs (disch := omega) [go_sem, -List.getD_eq_getElem?_getD, ite_yes]; exact ⟨.inl ⟨rfl, bl_flat _⟩, .inl ⟨rfl, bl_flat _⟩⟩) (by simp -dsimp -implicitDefEqProofs (disch := omega) [go_sem, -List.getD_eq_getElem?_getD, ite_yes, gtp, gt, gu, gus, klt])⟩ | exact ⟨weakS_vmk hV [some 3, some 1] rfl (by simp -dsimp -implicitDefEqProofs (disch := omega) [go_sem, -List.getD_eq_getElem?_getD, ite_yes]; exact ⟨.inl ⟨rfl, bl_flat _⟩, .inl ⟨rfl, bl_flat _⟩⟩) (by simp -dsimp -implicitDefEqProofs (disch := omega) [go_sem, -List.getD_eq_getElem?_getD, ite_yes, gtp, gt, gu, gus, klt])⟩
        · simp -dsimp -implicitDefEqProofs (disch := omega) [go_sem, -List.getD_eq_getElem?_getD, ite_yes, hlt, hlti, hk1, hki, cnet, klt, gtp, gt, gu, gus]
          first | refine AAt.of (by first | exact SubH.refl | exact SubH.app) ?_ | (refine ⟨?_, AAt.of (by first | exact SubH.refl | exact SubH.app) ?_⟩; · omega)
          refine AAny.one 4 7 (by kernel_rfl) (by kernel_rfl) (by kernel_rfl) ?_
          simp -dsimp -implicitDefEqProofs (disch := omega) [go_sem, -List.getD_eq_getElem?_getD, ite_yes, hlt, hlti, hk1, hki, cnet, klt, gtp, gt, gu, gus]
          refine ACall.of (o1 _ tp _ gP.app (by first | exact Sl.of rfl | exact Sl.nth 1 rfl rfl | exact Sl.nth 2 rfl rfl)) ?_
          simp -dsimp -implicitDefEqProofs (disch := omega) [go_sem, -List.getD_eq_getElem?_getD, ite_yes, hlt, hlti, hk1, hki, cnet, klt, gtp, gt, gu, gus]
          first | refine AAt.of (by first | exact SubH.refl | exact SubH.app) ?_ | (refine ⟨?_, AAt.of (by first | exact SubH.refl | exact SubH.app) ?_⟩; · omega)
          refine AAny.one 3 14 (by kernel_rfl) (by kernel_rfl) (by kernel_rfl) ?_
          simp -dsimp -implicitDefEqProofs (disch := omega) [go_sem, -List.getD_eq_getElem?_getD, ite_yes, hlt, hlti, hk1, hki, cnet, klt, gtp, gt, gu, gus]
          first | refine ACall.of (openedT_A l (by omega) c a (k + 1) hlt (by omega) (k + 1) _ t u gS.app gU.app) ?_ | refine ACall.of (openedT_A l (by omega) c a (k + 1) hlt (by omega) (k + 1) _ t u gS gU) ?_
          simp -dsimp -implicitDefEqProofs (disch := omega) [go_sem, -List.getD_eq_getElem?_getD, ite_yes, hlt, hlti, hk1, hki, cnet, klt, gtp, gt, gu, gus]
          first | refine AAt.of (by first | exact SubH.refl | exact SubH.app) ?_ | (refine ⟨?_, AAt.of (by first | exact SubH.refl | exact SubH.app) ?_⟩; · omega)
          refine AAny.one 2 16 (by kernel_rfl) (by kernel_rfl) (by kernel_rfl) ?_
          simp -dsimp -implicitDefEqProofs (disch := omega) [go_sem, -List.getD_eq_getElem?_getD, ite_yes, hlt, hlti, hk1, hki, cnet, klt, gtp, gt, gu, gus]
          refine ACall.of (o2 _ tp _ gP.app (by first | exact Sl.of rfl | exact Sl.nth 1 rfl rfl | exact Sl.nth 2 rfl rfl)) ?_
          simp -dsimp -implicitDefEqProofs (disch := omega) [go_sem, -List.getD_eq_getElem?_getD, ite_yes, hlt, hlti, hk1, hki, cnet, klt, gtp, gt, gu, gus]
          first | refine AAt.of (by first | exact SubH.refl | exact SubH.app) ?_ | (refine ⟨?_, AAt.of (by first | exact SubH.refl | exact SubH.app) ?_⟩; · omega)
          refine AAny.takes (fuel := 0) (by kernel_rfl) (by kernel_rfl) [17, 18] (by kernel_rfl) (by kernel_rfl) ?_
          simp -dsimp -implicitDefEqProofs (disch := omega) [go_sem, -List.getD_eq_getElem?_getD, ite_yes, hlt, hlti, hk1, hki, cnet, klt, gtp, gt, gu, gus]
          refine AAny.done (by kernel_rfl) ?_
          simp -dsimp -implicitDefEqProofs (disch := omega) [go_sem, -List.getD_eq_getElem?_getD, ite_yes, hlt, hlti, hk1, hki, cnet, klt, gtp, gt, gu, gus]
          first | exact ⟨weakS_vmk hV [some 1, some 3] rfl (by simp -dsimp -implicitDefEqProofs (disch := omega) [go_sem, -List.getD_eq_getElem?_getD, ite_yes]; exact ⟨.inl ⟨rfl, bl_flat _⟩, .inl ⟨rfl, bl_flat _⟩⟩) (by simp -dsimp -implicitDefEqProofs (disch := omega) [go_sem, -List.getD_eq_getElem?_getD, ite_yes, gtp, gt, gu, gus, klt])⟩ | exact ⟨weakS_vmk hV [some 2, some 3] rfl (by simp -dsimp -implicitDefEqProofs (disch := omega) [go_sem, -List.getD_eq_getElem?_getD, ite_yes]; exact ⟨.inl ⟨rfl, bl_flat _⟩, .inl ⟨rfl, bl_flat _⟩⟩) (by simp -dsimp -implicitDefEqProofs (disch := omega) [go_sem, -List.getD_eq_getElem?_getD, ite_yes, gtp, gt, gu, gus, klt])⟩ | exact ⟨weakS_vmk hV [some 3, some 2] rfl (by simp -dsimp -implicitDefEqProofs (disch := omega) [go_sem, -List.getD_eq_getElem?_getD, ite_yes]; exact ⟨.inl ⟨rfl, bl_flat _⟩, .inl ⟨rfl, bl_flat _⟩⟩) (by simp -dsimp -implicitDefEqProofs (disch := omega) [go_sem, -List.getD_eq_getElem?_getD, ite_yes, gtp, gt, gu, gus, klt])⟩ | exact ⟨weakS_vmk hV [some 3, some 1] rfl (by simp -dsimp -implicitDefEqProofs (disch := omega) [go_sem, -List.getD_eq_getElem?_getD, ite_yes]; exact ⟨.inl ⟨rfl, bl_flat _⟩, .inl ⟨rfl, bl_flat _⟩⟩) (by simp -dsimp -implicitDefEqProofs (disch := omega) [go_sem, -List.getD_eq_getElem?_getD, ite_yes, gtp, gt, gu, gus, klt])⟩
      · simp -dsimp -implicitDefEqProofs (disch := omega) [go_sem, -List.getD_eq_getElem?_getD, ite_yes, hlt, hlti, hk1, hki, cnet, klt, gtp, gt, gu, gus]
        first | refine AAt.of (by first | exact SubH.refl | exact SubH.app) ?_ | (refine ⟨?_, AAt.of (by first | exact SubH.refl | exact SubH.app) ?_⟩; · omega)
        refine AAny.one 5 5 (by kernel_rfl) (by kernel_rfl) (by kernel_rfl) ?_
        simp -dsimp -implicitDefEqProofs (disch := omega) [go_sem, -List.getD_eq_getElem?_getD, ite_yes, hlt, hlti, hk1, hki, cnet, klt, gtp, gt, gu, gus]
        first | refine ACall.of (openedT_A l (by omega) c a k hk (by omega) k _ t u gS.app gU.app) ?_ | refine ACall.of (openedT_A l (by omega) c a k hk (by omega) k _ t u gS gU) ?_
        simp -dsimp -implicitDefEqProofs (disch := omega) [go_sem, -List.getD_eq_getElem?_getD, ite_yes, hlt, hlti, hk1, hki, cnet, klt, gtp, gt, gu, gus]
        first | refine AAt.of (by first | exact SubH.refl | exact SubH.app) ?_ | (refine ⟨?_, AAt.of (by first | exact SubH.refl | exact SubH.app) ?_⟩; · omega)
        refine AAny.one 4 7 (by kernel_rfl) (by kernel_rfl) (by kernel_rfl) ?_
        simp -dsimp -implicitDefEqProofs (disch := omega) [go_sem, -List.getD_eq_getElem?_getD, ite_yes, hlt, hlti, hk1, hki, cnet, klt, gtp, gt, gu, gus]
        refine ACall.of (o1 _ tp _ gP.app (by first | exact Sl.of rfl | exact Sl.nth 1 rfl rfl | exact Sl.nth 2 rfl rfl)) ?_
        simp -dsimp -implicitDefEqProofs (disch := omega) [go_sem, -List.getD_eq_getElem?_getD, ite_yes, hlt, hlti, hk1, hki, cnet, klt, gtp, gt, gu, gus]
        first | refine AAt.of (by first | exact SubH.refl | exact SubH.app) ?_ | (refine ⟨?_, AAt.of (by first | exact SubH.refl | exact SubH.app) ?_⟩; · omega)
        refine AAny.one 3 14 (by kernel_rfl) (by kernel_rfl) (by kernel_rfl) ?_
        simp -dsimp -implicitDefEqProofs (disch := omega) [go_sem, -List.getD_eq_getElem?_getD, ite_yes, hlt, hlti, hk1, hki, cnet, klt, gtp, gt, gu, gus]
        first | refine ACall.of (openedT_A l (by omega) c a (k + 1) hlt (by omega) (k + 1) _ t u gS.app gU.app) ?_ | refine ACall.of (openedT_A l (by omega) c a (k + 1) hlt (by omega) (k + 1) _ t u gS gU) ?_
        simp -dsimp -implicitDefEqProofs (disch := omega) [go_sem, -List.getD_eq_getElem?_getD, ite_yes, hlt, hlti, hk1, hki, cnet, klt, gtp, gt, gu, gus]
        first | refine AAt.of (by first | exact SubH.refl | exact SubH.app) ?_ | (refine ⟨?_, AAt.of (by first | exact SubH.refl | exact SubH.app) ?_⟩; · omega)
        refine AAny.one 2 16 (by kernel_rfl) (by kernel_rfl) (by kernel_rfl) ?_
        simp -dsimp -implicitDefEqProofs (disch := omega) [go_sem, -List.getD_eq_getElem?_getD, ite_yes, hlt, hlti, hk1, hki, cnet, klt, gtp, gt, gu, gus]
        refine ACall.of (o2 _ tp _ gP.app (by first | exact Sl.of rfl | exact Sl.nth 1 rfl rfl | exact Sl.nth 2 rfl rfl)) ?_
        simp -dsimp -implicitDefEqProofs (disch := omega) [go_sem, -List.getD_eq_getElem?_getD, ite_yes, hlt, hlti, hk1, hki, cnet, klt, gtp, gt, gu, gus]
        first | refine AAt.of (by first | exact SubH.refl | exact SubH.app) ?_ | (refine ⟨?_, AAt.of (by first | exact SubH.refl | exact SubH.app) ?_⟩; · omega)
        refine AAny.takes (fuel := 0) (by kernel_rfl) (by kernel_rfl) [17, 18] (by kernel_rfl) (by kernel_rfl) ?_
        simp -dsimp -implicitDefEqProofs (disch := omega) [go_sem, -List.getD_eq_getElem?_getD, ite_yes, hlt, hlti, hk1, hki, cnet, klt, gtp, gt, gu, gus]
        refine AAny.done (by kernel_rfl) ?_
        simp -dsimp -implicitDefEqProofs (disch := omega) [go_sem, -List.getD_eq_getElem?_getD, ite_yes, hlt, hlti, hk1, hki, cnet, klt, gtp, gt, gu, gus]
        first | exact ⟨weakS_vmk hV [some 1, some 3] rfl (by simp -dsimp -implicitDefEqProofs (disch := omega) [go_sem, -List.getD_eq_getElem?_getD, ite_yes]; exact ⟨.inl ⟨rfl, bl_flat _⟩, .inl ⟨rfl, bl_flat _⟩⟩) (by simp -dsimp -implicitDefEqProofs (disch := omega) [go_sem, -List.getD_eq_getElem?_getD, ite_yes, gtp, gt, gu, gus, klt])⟩ | exact ⟨weakS_vmk hV [some 2, some 3] rfl (by simp -dsimp -implicitDefEqProofs (disch := omega) [go_sem, -List.getD_eq_getElem?_getD, ite_yes]; exact ⟨.inl ⟨rfl, bl_flat _⟩, .inl ⟨rfl, bl_flat _⟩⟩) (by simp -dsimp -implicitDefEqProofs (disch := omega) [go_sem, -List.getD_eq_getElem?_getD, ite_yes, gtp, gt, gu, gus, klt])⟩ | exact ⟨weakS_vmk hV [some 3, some 2] rfl (by simp -dsimp -implicitDefEqProofs (disch := omega) [go_sem, -List.getD_eq_getElem?_getD, ite_yes]; exact ⟨.inl ⟨rfl, bl_flat _⟩, .inl ⟨rfl, bl_flat _⟩⟩) (by simp -dsimp -implicitDefEqProofs (disch := omega) [go_sem, -List.getD_eq_getElem?_getD, ite_yes, gtp, gt, gu, gus, klt])⟩ | exact ⟨weakS_vmk hV [some 3, some 1] rfl (by simp -dsimp -implicitDefEqProofs (disch := omega) [go_sem, -List.getD_eq_getElem?_getD, ite_yes]; exact ⟨.inl ⟨rfl, bl_flat _⟩, .inl ⟨rfl, bl_flat _⟩⟩) (by simp -dsimp -implicitDefEqProofs (disch := omega) [go_sem, -List.getD_eq_getElem?_getD, ite_yes, gtp, gt, gu, gus, klt])⟩
    · simp -dsimp -implicitDefEqProofs (disch := omega) [go_sem, -List.getD_eq_getElem?_getD, ite_yes, hlt, hlti, hk1, hki, cnet, klt, gtp, gt, gu, gus]
      first | refine ACall.of (openedT_A l (by omega) c a k hk (by omega) k _ t u gS.app gU.app) ?_ | refine ACall.of (openedT_A l (by omega) c a k hk (by omega) k _ t u gS gU) ?_
      simp -dsimp -implicitDefEqProofs (disch := omega) [go_sem, -List.getD_eq_getElem?_getD, ite_yes, hlt, hlti, hk1, hki, cnet, klt, gtp, gt, gu, gus]
      first | refine AAt.of (by first | exact SubH.refl | exact SubH.app) ?_ | (refine ⟨?_, AAt.of (by first | exact SubH.refl | exact SubH.app) ?_⟩; · omega)
      refine AAny.two 6 0 8 (by kernel_rfl) (by kernel_rfl) (by kernel_rfl) ?_ ?_
      · simp -dsimp -implicitDefEqProofs (disch := omega) [go_sem, -List.getD_eq_getElem?_getD, ite_yes, hlt, hlti, hk1, hki, cnet, klt, gtp, gt, gu, gus]
        first | refine AAt.of (by first | exact SubH.refl | exact SubH.app) ?_ | (refine ⟨?_, AAt.of (by first | exact SubH.refl | exact SubH.app) ?_⟩; · omega)
        refine AAny.two 5 7 8 (by kernel_rfl) (by kernel_rfl) (by kernel_rfl) ?_ ?_
        · simp -dsimp -implicitDefEqProofs (disch := omega) [go_sem, -List.getD_eq_getElem?_getD, ite_yes, hlt, hlti, hk1, hki, cnet, klt, gtp, gt, gu, gus]
          refine ACall.of (o1 _ tp _ gP.app (by first | exact Sl.of rfl | exact Sl.nth 1 rfl rfl | exact Sl.nth 2 rfl rfl)) ?_
          simp -dsimp -implicitDefEqProofs (disch := omega) [go_sem, -List.getD_eq_getElem?_getD, ite_yes, hlt, hlti, hk1, hki, cnet, klt, gtp, gt, gu, gus]
          first | refine AAt.of (by first | exact SubH.refl | exact SubH.app) ?_ | (refine ⟨?_, AAt.of (by first | exact SubH.refl | exact SubH.app) ?_⟩; · omega)
          refine AAny.two 4 8 14 (by kernel_rfl) (by kernel_rfl) (by kernel_rfl) ?_ ?_
          · simp -dsimp -implicitDefEqProofs (disch := omega) [go_sem, -List.getD_eq_getElem?_getD, ite_yes, hlt, hlti, hk1, hki, cnet, klt, gtp, gt, gu, gus]
            first | refine AAt.of (by first | exact SubH.refl | exact SubH.app) ?_ | (refine ⟨?_, AAt.of (by first | exact SubH.refl | exact SubH.app) ?_⟩; · omega)
            refine AAny.one 3 14 (by kernel_rfl) (by kernel_rfl) (by kernel_rfl) ?_
            simp -dsimp -implicitDefEqProofs (disch := omega) [go_sem, -List.getD_eq_getElem?_getD, ite_yes, hlt, hlti, hk1, hki, cnet, klt, gtp, gt, gu, gus]
            first | refine ACall.of (openedT_A l (by omega) c a (k + 1) hlt (by omega) (k + 1) _ t u gS.app gU.app) ?_ | refine ACall.of (openedT_A l (by omega) c a (k + 1) hlt (by omega) (k + 1) _ t u gS gU) ?_
            simp -dsimp -implicitDefEqProofs (disch := omega) [go_sem, -List.getD_eq_getElem?_getD, ite_yes, hlt, hlti, hk1, hki, cnet, klt, gtp, gt, gu, gus]
            first | refine AAt.of (by first | exact SubH.refl | exact SubH.app) ?_ | (refine ⟨?_, AAt.of (by first | exact SubH.refl | exact SubH.app) ?_⟩; · omega)
            refine AAny.one 2 16 (by kernel_rfl) (by kernel_rfl) (by kernel_rfl) ?_
            simp -dsimp -implicitDefEqProofs (disch := omega) [go_sem, -List.getD_eq_getElem?_getD, ite_yes, hlt, hlti, hk1, hki, cnet, klt, gtp, gt, gu, gus]
            refine ACall.of (o2 _ tp _ gP.app (by first | exact Sl.of rfl | exact Sl.nth 1 rfl rfl | exact Sl.nth 2 rfl rfl)) ?_
            simp -dsimp -implicitDefEqProofs (disch := omega) [go_sem, -List.getD_eq_getElem?_getD, ite_yes, hlt, hlti, hk1, hki, cnet, klt, gtp, gt, gu, gus]
            first | refine AAt.of (by first | exact SubH.refl | exact SubH.app) ?_ | (refine ⟨?_, AAt.of (by first | exact SubH.refl | exact SubH.app) ?_⟩; · omega)
            refine AAny.takes (fuel := 0) (by kernel_rfl) (by kernel_rfl) [17, 18] (by kernel_rfl) (by kernel_rfl) ?_
            simp -dsimp -implicitDefEqProofs (disch := omega) [go_sem, -List.getD_eq_getElem?_getD, ite_yes, hlt, hlti, hk1, hki, cnet, klt, gtp, gt, gu, gus]
            refine AAny.done (by kernel_rfl) ?_
            simp -dsimp -implicitDefEqProofs (disch := omega) [go_sem, -List.getD_eq_getElem?_getD, ite_yes, hlt, hlti, hk1, hki, cnet, klt, gtp, gt, gu, gus]
            first | exact ⟨weakS_vmk hV [some 1, some 3] rfl (by simp -dsimp -implicitDefEqProofs (disch := omega) [go_sem, -List.getD_eq_getElem?_getD, ite_yes]; exact ⟨.inl ⟨rfl, bl_flat _⟩, .inl ⟨rfl, bl_flat _⟩⟩) (by simp -dsimp -implicitDefEqProofs (disch := omega) [go_sem, -List.getD_eq_getElem?_getD, ite_yes, gtp, gt, gu, gus, klt])⟩ | exact ⟨weakS_vmk hV [some 2, some 3] rfl (by simp -dsimp -implicitDefEqProofs (disch := omega) [go_sem, -List.getD_eq_getElem?_getD, ite_yes]; exact ⟨.inl ⟨rfl, bl_flat _⟩, .inl ⟨rfl, bl_flat _⟩⟩) (by simp -dsimp -implicitDefEqProofs (disch := omega) [go_sem, -List.getD_eq_getElem?_getD, ite_yes, gtp, gt, gu, gus, klt])⟩ | exact ⟨weakS_vmk hV [some 3, some 2] rfl (by simp -dsimp -implicitDefEqProofs (disch := omega) [go_sem, -List.getD_eq_getElem?_getD, ite_yes]; exact ⟨.inl ⟨rfl, bl_flat _⟩, .inl ⟨rfl, bl_flat _⟩⟩) (by simp -dsimp -implicitDefEqProofs (disch := omega) [go_sem, -List.getD_eq_getElem?_getD, ite_yes, gtp, gt, gu, gus, klt])⟩ | exact ⟨weakS_vmk hV [some 3, some 1] rfl (by simp -dsimp -implicitDefEqProofs (disch := omega) [go_sem, -List.getD_eq_getElem?_getD, ite_yes]; exact ⟨.inl ⟨rfl, bl_flat _⟩, .inl ⟨rfl, bl_flat _⟩⟩) (by simp -dsimp -implicitDefEqProofs (disch := omega) [go_sem, -List.getD_eq_getElem?_getD, ite_yes, gtp, gt, gu, gus, klt])⟩
          · simp -dsimp -implicitDefEqProofs (disch := omega) [go_sem, -List.getD_eq_getElem?_getD, ite_yes, hlt, hlti, hk1, hki, cnet, klt, gtp, gt, gu, gus]
            first | refine ACall.of (openedT_A l (by omega) c a (k + 1) hlt (by omega) (k + 1) _ t u gS.app gU.app) ?_ | refine ACall.of (openedT_A l (by omega) c a (k + 1) hlt (by omega) (k + 1) _ t u gS gU) ?_
            simp -dsimp -implicitDefEqProofs (disch := omega) [go_sem, -List.getD_eq_getElem?_getD, ite_yes, hlt, hlti, hk1, hki, cnet, klt, gtp, gt, gu, gus]
            first | refine AAt.of (by first | exact SubH.refl | exact SubH.app) ?_ | (refine ⟨?_, AAt.of (by first | exact SubH.refl | exact SubH.app) ?_⟩; · omega)
            refine AAny.one 3 8 (by kernel_rfl) (by kernel_rfl) (by kernel_rfl) ?_
            simp -dsimp -implicitDefEqProofs (disch := omega) [go_sem, -List.getD_eq_getElem?_getD, ite_yes, hlt, hlti, hk1, hki, cnet, klt, gtp, gt, gu, gus]
            first | refine AAt.of (by first | exact SubH.refl | exact SubH.app) ?_ | (refine ⟨?_, AAt.of (by first | exact SubH.refl | exact SubH.app) ?_⟩; · omega)
            refine AAny.one 2 16 (by kernel_rfl) (by kernel_rfl) (by kernel_rfl) ?_
            simp -dsimp -implicitDefEqProofs (disch := omega) [go_sem, -List.getD_eq_getElem?_getD, ite_yes, hlt, hlti, hk1, hki, cnet, klt, gtp, gt, gu, gus]
            refine ACall.of (o2 _ tp _ gP.app (by first | exact Sl.of rfl | exact Sl.nth 1 rfl rfl | exact Sl.nth 2 rfl rfl)) ?_
            simp -dsimp -implicitDefEqProofs (disch := omega) [go_sem, -List.getD_eq_getElem?_getD, ite_yes, hlt, hlti, hk1, hki, cnet, klt, gtp, gt, gu, gus]
            first | refine AAt.of (by first | exact SubH.refl | exact SubH.app) ?_ | (refine ⟨?_, AAt.of (by first | exact SubH.refl | exact SubH.app) ?_⟩; · omega)
            refine AAny.takes (fuel := 0) (by kernel_rfl) (by kernel_rfl) [17, 18] (by kernel_rfl) (by kernel_rfl) ?_
            simp -dsimp -implicitDefEqProofs (disch := omega) [go_sem, -List.getD_eq_getElem?_getD, ite_yes, hlt, hlti, hk1, hki, cnet, klt, gtp, gt, gu, gus]
            refine AAny.done (by kernel_rfl) ?_
            simp -dsimp -implicitDefEqProofs (disch := omega) [go_sem, -List.getD_eq_getElem?_getD, ite_yes, hlt, hlti, hk1, hki, cnet, klt, gtp, gt, gu, gus]
            first | exact ⟨weakS_vmk hV [some 1, some 3] rfl (by simp -dsimp -implicitDefEqProofs (disch := omega) [go_sem, -List.getD_eq_getElem?_getD, ite_yes]; exact ⟨.inl ⟨rfl, bl_flat _⟩, .inl ⟨rfl, bl_flat _⟩⟩) (by simp -dsimp -implicitDefEqProofs (disch := omega) [go_sem, -List.getD_eq_getElem?_getD, ite_yes, gtp, gt, gu, gus, klt])⟩ | exact ⟨weakS_vmk hV [some 2, some 3] rfl (by simp -dsimp -implicitDefEqProofs (disch := omega) [go_sem, -List.getD_eq_getElem?_getD, ite_yes]; exact ⟨.inl ⟨rfl, bl_flat _⟩, .inl ⟨rfl, bl_flat _⟩⟩) (by simp -dsimp -implicitDefEqProofs (disch := omega) [go_sem, -List.getD_eq_getElem?_getD, ite_yes, gtp, gt, gu, gus, klt])⟩ | exact ⟨weakS_vmk hV [some 3, some 2] rfl (by simp -dsimp -implicitDefEqProofs (disch := omega) [go_sem, -List.getD_eq_getElem?_getD, ite_yes]; exact ⟨.inl ⟨rfl, bl_flat _⟩, .inl ⟨rfl, bl_flat _⟩⟩) (by simp -dsimp -implicitDefEqProofs (disch := omega) [go_sem, -List.getD_eq_getElem?_getD, ite_yes, gtp, gt, gu, gus, klt])⟩ | exact ⟨weakS_vmk hV [some 3, some 1] rfl (by simp -dsimp -implicitDefEqProofs (disch := omega) [go_sem, -List.getD_eq_getElem?_getD, ite_yes]; exact ⟨.inl ⟨rfl, bl_flat _⟩, .inl ⟨rfl, bl_flat _⟩⟩) (by simp -dsimp -implicitDefEqProofs (disch := omega) [go_sem, -List.getD_eq_getElem?_getD, ite_yes, gtp, gt, gu, gus, klt])⟩
        · simp -dsimp -implicitDefEqProofs (disch := omega) [go_sem, -List.getD_eq_getElem?_getD, ite_yes, hlt, hlti, hk1, hki, cnet, klt, gtp, gt, gu, gus]
          first | refine AAt.of (by first | exact SubH.refl | exact SubH.app) ?_ | (refine ⟨?_, AAt.of (by first | exact SubH.refl | exact SubH.app) ?_⟩; · omega)
          refine AAny.one 4 7 (by kernel_rfl) (by kernel_rfl) (by kernel_rfl) ?_
          simp -dsimp -implicitDefEqProofs (disch := omega) [go_sem, -List.getD_eq_getElem?_getD, ite_yes, hlt, hlti, hk1, hki, cnet, klt, gtp, gt, gu, gus]
          refine ACall.of (o1 _ tp _ gP.app (by first | exact Sl.of rfl | exact Sl.nth 1 rfl rfl | exact Sl.nth 2 rfl rfl)) ?_
          simp -dsimp -implicitDefEqProofs (disch := omega) [go_sem, -List.getD_eq_getElem?_getD, ite_yes, hlt, hlti, hk1, hki, cnet, klt, gtp, gt, gu, gus]
          first | refine AAt.of (by first | exact SubH.refl | exact SubH.app) ?_ | (refine ⟨?_, AAt.of (by first | exact SubH.refl | exact SubH.app) ?_⟩; · omega)
          refine AAny.one 3 14 (by kernel_rfl) (by kernel_rfl) (by kernel_rfl) ?_
          simp -dsimp -implicitDefEqProofs (disch := omega) [go_sem, -List.getD_eq_getElem?_getD, ite_yes, hlt, hlti, hk1, hki, cnet, klt, gtp, gt, gu, gus]
          first | refine ACall.of (openedT_A l (by omega) c a (k + 1) hlt (by omega) (k + 1) _ t u gS.app gU.app) ?_ | refine ACall.of (openedT_A l (by omega) c a (k + 1) hlt (by omega) (k + 1) _ t u gS gU) ?_
          simp -dsimp -implicitDefEqProofs (disch := omega) [go_sem, -List.getD_eq_getElem?_getD, ite_yes, hlt, hlti, hk1, hki, cnet, klt, gtp, gt, gu, gus]
          first | refine AAt.of (by first | exact SubH.refl | exact SubH.app) ?_ | (refine ⟨?_, AAt.of (by first | exact SubH.refl | exact SubH.app) ?_⟩; · omega)
          refine AAny.one 2 16 (by kernel_rfl) (by kernel_rfl) (by kernel_rfl) ?_
          simp -dsimp -implicitDefEqProofs (disch := omega) [go_sem, -List.getD_eq_getElem?_getD, ite_yes, hlt, hlti, hk1, hki, cnet, klt, gtp, gt, gu, gus]
          refine ACall.of (o2 _ tp _ gP.app (by first | exact Sl.of rfl | exact Sl.nth 1 rfl rfl | exact Sl.nth 2 rfl rfl)) ?_
          simp -dsimp -implicitDefEqProofs (disch := omega) [go_sem, -List.getD_eq_getElem?_getD, ite_yes, hlt, hlti, hk1, hki, cnet, klt, gtp, gt, gu, gus]
          first | refine AAt.of (by first | exact SubH.refl | exact SubH.app) ?_ | (refine ⟨?_, AAt.of (by first | exact SubH.refl | exact SubH.app) ?_⟩; · omega)
          refine AAny.takes (fuel := 0) (by kernel_rfl) (by kernel_rfl) [17, 18] (by kernel_rfl) (by kernel_rfl) ?_
          simp -dsimp -implicitDefEqProofs (disch := omega) [go_sem, -List.getD_eq_getElem?_getD, ite_yes, hlt, hlti, hk1, hki, cnet, klt, gtp, gt, gu, gus]
          refine AAny.done (by kernel_rfl) ?_
          simp -dsimp -implicitDefEqProofs (disch := omega) [go_sem, -List.getD_eq_getElem?_getD, ite_yes, hlt, hlti, hk1, hki, cnet, klt, gtp, gt, gu, gus]
          first | exact ⟨weakS_vmk hV [some 1, some 3] rfl (by simp -dsimp -implicitDefEqProofs (disch := omega) [go_sem, -List.getD_eq_getElem?_getD, ite_yes]; exact ⟨.inl ⟨rfl, bl_flat _⟩, .inl ⟨rfl, bl_flat _⟩⟩) (by simp -dsimp -implicitDefEqProofs (disch := omega) [go_sem, -List.getD_eq_getElem?_getD, ite_yes, gtp, gt, gu, gus, klt])⟩ | exact ⟨weakS_vmk hV [some 2, some 3] rfl (by simp -dsimp -implicitDefEqProofs (disch := omega) [go_sem, -List.getD_eq_getElem?_getD, ite_yes]; exact ⟨.inl ⟨rfl, bl_flat _⟩, .inl ⟨rfl, bl_flat _⟩⟩) (by simp -dsimp -implicitDefEqProofs (disch := omega) [go_sem, -List.getD_eq_getElem?_getD, ite_yes, gtp, gt, gu, gus, klt])⟩ | exact ⟨weakS_vmk hV [some 3, some 2] rfl (by simp -dsimp -implicitDefEqProofs (disch := omega) [go_sem, -List.getD_eq_getElem?_getD, ite_yes]; exact ⟨.inl ⟨rfl, bl_flat _⟩, .inl ⟨rfl, bl_flat _⟩⟩) (by simp -dsimp -implicitDefEqProofs (disch := omega) [go_sem, -List.getD_eq_getElem?_getD, ite_yes, gtp, gt, gu, gus, klt])⟩ | exact ⟨weakS_vmk hV [some 3, some 1] rfl (by simp -dsimp -implicitDefEqProofs (disch := omega) [go_sem, -List.getD_eq_getElem?_getD, ite_yes]; exact ⟨.inl ⟨rfl, bl_flat _⟩, .inl ⟨rfl, bl_flat _⟩⟩) (by simp -dsimp -implicitDefEqProofs (disch := omega) [go_sem, -List.getD_eq_getElem?_getD, ite_yes, gtp, gt, gu, gus, klt])⟩
      · simp -dsimp -implicitDefEqProofs (disch := omega) [go_sem, -List.getD_eq_getElem?_getD, ite_yes, hlt, hlti, hk1, hki, cnet, klt, gtp, gt, gu, gus]
        first | refine AAt.of (by first | exact SubH.refl | exact SubH.app) ?_ | (refine ⟨?_, AAt.of (by first | exact SubH.refl | exact SubH.app) ?_⟩; · omega)
        refine AAny.one 5 0 (by kernel_rfl) (by kernel_rfl) (by kernel_rfl) ?_
        simp -dsimp -implicitDefEqProofs (disch := omega) [go_sem, -List.getD_eq_getElem?_getD, ite_yes, hlt, hlti, hk1, hki, cnet, klt, gtp, gt, gu, gus]
        first | refine AAt.of (by first | exact SubH.refl | exact SubH.app) ?_ | (refine ⟨?_, AAt.of (by first | exact SubH.refl | exact SubH.app) ?_⟩; · omega)
        refine AAny.one 4 7 (by kernel_rfl) (by kernel_rfl) (by kernel_rfl) ?_
        simp -dsimp -implicitDefEqProofs (disch := omega) [go_sem, -List.getD_eq_getElem?_getD, ite_yes, hlt, hlti, hk1, hki, cnet, klt, gtp, gt, gu, gus]
        refine ACall.of (o1 _ tp _ gP.app (by first | exact Sl.of rfl | exact Sl.nth 1 rfl rfl | exact Sl.nth 2 rfl rfl)) ?_
        simp -dsimp -implicitDefEqProofs (disch := omega) [go_sem, -List.getD_eq_getElem?_getD, ite_yes, hlt, hlti, hk1, hki, cnet, klt, gtp, gt, gu, gus]
        first | refine AAt.of (by first | exact SubH.refl | exact SubH.app) ?_ | (refine ⟨?_, AAt.of (by first | exact SubH.refl | exact SubH.app) ?_⟩; · omega)
        refine AAny.one 3 14 (by kernel_rfl) (by kernel_rfl) (by kernel_rfl) ?_
        simp -dsimp -implicitDefEqProofs (disch := omega) [go_sem, -List.getD_eq_getElem?_getD, ite_yes, hlt, hlti, hk1, hki, cnet, klt, gtp, gt, gu, gus]
        first | refine ACall.of (openedT_A l (by omega) c a (k + 1) hlt (by omega) (k + 1) _ t u gS.app gU.app) ?_ | refine ACall.of (openedT_A l (by omega) c a (k + 1) hlt (by omega) (k + 1) _ t u gS gU) ?_
        simp -dsimp -implicitDefEqProofs (disch := omega) [go_sem, -List.getD_eq_getElem?_getD, ite_yes, hlt, hlti, hk1, hki, cnet, klt, gtp, gt, gu, gus]
        first | refine AAt.of (by first | exact SubH.refl | exact SubH.app) ?_ | (refine ⟨?_, AAt.of (by first | exact SubH.refl | exact SubH.app) ?_⟩; · omega)
        refine AAny.one 2 16 (by kernel_rfl) (by kernel_rfl) (by kernel_rfl) ?_
        simp -dsimp -implicitDefEqProofs (disch := omega) [go_sem, -List.getD_eq_getElem?_getD, ite_yes, hlt, hlti, hk1, hki, cnet, klt, gtp, gt, gu, gus]
        refine ACall.of (o2 _ tp _ gP.app (by first | exact Sl.of rfl | exact Sl.nth 1 rfl rfl | exact Sl.nth 2 rfl rfl)) ?_
        simp -dsimp -implicitDefEqProofs (disch := omega) [go_sem, -List.getD_eq_getElem?_getD, ite_yes, hlt, hlti, hk1, hki, cnet, klt, gtp, gt, gu, gus]
        first | refine AAt.of (by first | exact SubH.refl | exact SubH.app) ?_ | (refine ⟨?_, AAt.of (by first | exact SubH.refl | exact SubH.app) ?_⟩; · omega)
        refine AAny.takes (fuel := 0) (by kernel_rfl) (by kernel_rfl) [17, 18] (by kernel_rfl) (by kernel_rfl) ?_
        simp -dsimp -implicitDefEqProofs (disch := omega) [go_sem, -List.getD_eq_getElem?_getD, ite_yes, hlt, hlti, hk1, hki, cnet, klt, gtp, gt, gu, gus]
        refine AAny.done (by kernel_rfl) ?_
        simp -dsimp -implicitDefEqProofs (disch := omega) [go_sem, -List.getD_eq_getElem?_getD, ite_yes, hlt, hlti, hk1, hki, cnet, klt, gtp, gt, gu, gus]
        first | exact ⟨weakS_vmk hV [some 1, some 3] rfl (by simp -dsimp -implicitDefEqProofs (disch := omega) [go_sem, -List.getD_eq_getElem?_getD, ite_yes]; exact ⟨.inl ⟨rfl, bl_flat _⟩, .inl ⟨rfl, bl_flat _⟩⟩) (by simp -dsimp -implicitDefEqProofs (disch := omega) [go_sem, -List.getD_eq_getElem?_getD, ite_yes, gtp, gt, gu, gus, klt])⟩ | exact ⟨weakS_vmk hV [some 2, some 3] rfl (by simp -dsimp -implicitDefEqProofs (disch := omega) [go_sem, -List.getD_eq_getElem?_getD, ite_yes]; exact ⟨.inl ⟨rfl, bl_flat _⟩, .inl ⟨rfl, bl_flat _⟩⟩) (by simp -dsimp -implicitDefEqProofs (disch := omega) [go_sem, -List.getD_eq_getElem?_getD, ite_yes, gtp, gt, gu, gus, klt])⟩ | exact ⟨weakS_vmk hV [some 3, some 2] rfl (by simp -dsimp -implicitDefEqProofs (disch := omega) [go_sem, -List.getD_eq_getElem?_getD, ite_yes]; exact ⟨.inl ⟨rfl, bl_flat _⟩, .inl ⟨rfl, bl_flat _⟩⟩) (by simp -dsimp -implicitDefEqProofs (disch := omega) [go_sem, -List.getD_eq_getElem?_getD, ite_yes, gtp, gt, gu, gus, klt])⟩ | exact ⟨weakS_vmk hV [some 3, some 1] rfl (by simp -dsimp -implicitDefEqProofs (disch := omega) [go_sem, -List.getD_eq_getElem?_getD, ite_yes]; exact ⟨.inl ⟨rfl, bl_flat _⟩, .inl ⟨rfl, bl_flat _⟩⟩) (by simp -dsimp -implicitDefEqProofs (disch := omega) [go_sem, -List.getD_eq_getElem?_getD, ite_yes, gtp, gt, gu, gus, klt])⟩
    · simp -dsimp -implicitDefEqProofs (disch := omega) [go_sem, -List.getD_eq_getElem?_getD, ite_yes, hlt, hlti, hk1, hki, cnet, klt, gtp, gt, gu, gus]
      first | refine AAt.of (by first | exact SubH.refl | exact SubH.app) ?_ | (refine ⟨?_, AAt.of (by first | exact SubH.refl | exact SubH.app) ?_⟩; · omega)
      refine AAny.two 6 0 5 (by kernel_rfl) (by kernel_rfl) (by kernel_rfl) ?_ ?_
      · simp -dsimp -implicitDefEqProofs (disch := omega) [go_sem, -List.getD_eq_getElem?_getD, ite_yes, hlt, hlti, hk1, hki, cnet, klt, gtp, gt, gu, gus]
        first | refine AAt.of (by first | exact SubH.refl | exact SubH.app) ?_ | (refine ⟨?_, AAt.of (by first | exact SubH.refl | exact SubH.app) ?_⟩; · omega)
        refine AAny.one 5 5 (by kernel_rfl) (by kernel_rfl) (by kernel_rfl) ?_
        simp -dsimp -implicitDefEqProofs (disch := omega) [go_sem, -List.getD_eq_getElem?_getD, ite_yes, hlt, hlti, hk1, hki, cnet, klt, gtp, gt, gu, gus]
        first | refine ACall.of (openedT_A l (by omega) c a k hk (by omega) k _ t u gS.app gU.app) ?_ | refine ACall.of (openedT_A l (by omega) c a k hk (by omega) k _ t u gS gU) ?_
        simp -dsimp -implicitDefEqProofs (disch := omega) [go_sem, -List.getD_eq_getElem?_getD, ite_yes, hlt, hlti, hk1, hki, cnet, klt, gtp, gt, gu, gus]
        first | refine AAt.of (by first | exact SubH.refl | exact SubH.app) ?_ | (refine ⟨?_, AAt.of (by first | exact SubH.refl | exact SubH.app) ?_⟩; · omega)
        refine AAny.one 4 7 (by kernel_rfl) (by kernel_rfl) (by kernel_rfl) ?_
        simp -dsimp -implicitDefEqProofs (disch := omega) [go_sem, -List.getD_eq_getElem?_getD, ite_yes, hlt, hlti, hk1, hki, cnet, klt, gtp, gt, gu, gus]
        refine ACall.of (o1 _ tp _ gP.app (by first | exact Sl.of rfl | exact Sl.nth 1 rfl rfl | exact Sl.nth 2 rfl rfl)) ?_
        simp -dsimp -implicitDefEqProofs (disch := omega) [go_sem, -List.getD_eq_getElem?_getD, ite_yes, hlt, hlti, hk1, hki, cnet, klt, gtp, gt, gu, gus]
        first | refine AAt.of (by first | exact SubH.refl | exact SubH.app) ?_ | (refine ⟨?_, AAt.of (by first | exact SubH.refl | exact SubH.app) ?_⟩; · omega)
        refine AAny.one 3 14 (by kernel_rfl) (by kernel_rfl) (by kernel_rfl) ?_
        simp -dsimp -implicitDefEqProofs (disch := omega) [go_sem, -List.getD_eq_getElem?_getD, ite_yes, hlt, hlti, hk1, hki, cnet, klt, gtp, gt, gu, gus]
        first | refine ACall.of (openedT_A l (by omega) c a (k + 1) hlt (by omega) (k + 1) _ t u gS.app gU.app) ?_ | refine ACall.of (openedT_A l (by omega) c a (k + 1) hlt (by omega) (k + 1) _ t u gS gU) ?_
        simp -dsimp -implicitDefEqProofs (disch := omega) [go_sem, -List.getD_eq_getElem?_getD, ite_yes, hlt, hlti, hk1, hki, cnet, klt, gtp, gt, gu, gus]
        first | refine AAt.of (by first | exact SubH.refl | exact SubH.app) ?_ | (refine ⟨?_, AAt.of (by first | exact SubH.refl | exact SubH.app) ?_⟩; · omega)
        refine AAny.one 2 16 (by kernel_rfl) (by kernel_rfl) (by kernel_rfl) ?_
        simp -dsimp -implicitDefEqProofs (disch := omega) [go_sem, -List.getD_eq_getElem?_getD, ite_yes, hlt, hlti, hk1, hki, cnet, klt, gtp, gt, gu, gus]
        refine ACall.of (o2 _ tp _ gP.app (by first | exact Sl.of rfl | exact Sl.nth 1 rfl rfl | exact Sl.nth 2 rfl rfl)) ?_
        simp -dsimp -implicitDefEqProofs (disch := omega) [go_sem, -List.getD_eq_getElem?_getD, ite_yes, hlt, hlti, hk1, hki, cnet, klt, gtp, gt, gu, gus]
        first | refine AAt.of (by first | exact SubH.refl | exact SubH.app) ?_ | (refine ⟨?_, AAt.of (by first | exact SubH.refl | exact SubH.app) ?_⟩; · omega)
        refine AAny.takes (fuel := 0) (by kernel_rfl) (by kernel_rfl) [17, 18] (by kernel_rfl) (by kernel_rfl) ?_
        simp -dsimp -implicitDefEqProofs (disch := omega) [go_sem, -List.getD_eq_getElem?_getD, ite_yes, hlt, hlti, hk1, hki, cnet, klt, gtp, gt, gu, gus]
        refine AAny.done (by kernel_rfl) ?_
        simp -dsimp -implicitDefEqProofs (disch := omega) [go_sem, -List.getD_eq_getElem?_getD, ite_yes, hlt, hlti, hk1, hki, cnet, klt, gtp, gt, gu, gus]
        first | exact ⟨weakS_vmk hV [some 1, some 3] rfl (by simp -dsimp -implicitDefEqProofs (disch := omega) [go_sem, -List.getD_eq_getElem?_getD, ite_yes]; exact ⟨.inl ⟨rfl, bl_flat _⟩, .inl ⟨rfl, bl_flat _⟩⟩) (by simp -dsimp -implicitDefEqProofs (disch := omega) [go_sem, -List.getD_eq_getElem?_getD, ite_yes, gtp, gt, gu, gus, klt])⟩ | exact ⟨weakS_vmk hV [some 2, some 3] rfl (by simp -dsimp -implicitDefEqProofs (disch := omega) [go_sem, -List.getD_eq_getElem?_getD, ite_yes]; exact ⟨.inl ⟨rfl, bl_flat _⟩, .inl ⟨rfl, bl_flat _⟩⟩) (by simp -dsimp -implicitDefEqProofs (disch := omega) [go_sem, -List.getD_eq_getElem?_getD, ite_yes, gtp, gt, gu, gus, klt])⟩ | exact ⟨weakS_vmk hV [some 3, some 2] rfl (by simp -dsimp -implicitDefEqProofs (disch := omega) [go_sem, -List.getD_eq_getElem?_getD, ite_yes]; exact ⟨.inl ⟨rfl, bl_flat _⟩, .inl ⟨rfl, bl_flat _⟩⟩) (by simp -dsimp -implicitDefEqProofs (disch := omega) [go_sem, -List.getD_eq_getElem?_getD, ite_yes, gtp, gt, gu, gus, klt])⟩ | exact ⟨weakS_vmk hV [some 3, some 1] rfl (by simp -dsimp -implicitDefEqProofs (disch := omega) [go_sem, -List.getD_eq_getElem?_getD, ite_yes]; exact ⟨.inl ⟨rfl, bl_flat _⟩, .inl ⟨rfl, bl_flat _⟩⟩) (by simp -dsimp -implicitDefEqProofs (disch := omega) [go_sem, -List.getD_eq_getElem?_getD, ite_yes, gtp, gt, gu, gus, klt])⟩
      · simp -dsimp -implicitDefEqProofs (disch := omega) [go_sem, -List.getD_eq_getElem?_getD, ite_yes, hlt, hlti, hk1, hki, cnet, klt, gtp, gt, gu, gus]
        first | refine ACall.of (openedT_A l (by omega) c a k hk (by omega) k _ t u gS.app gU.app) ?_ | refine ACall.of (openedT_A l (by omega) c a k hk (by omega) k _ t u gS gU) ?_
        simp -dsimp -implicitDefEqProofs (disch := omega) [go_sem, -List.getD_eq_getElem?_getD, ite_yes, hlt, hlti, hk1, hki, cnet, klt, gtp, gt, gu, gus]
        first | refine AAt.of (by first | exact SubH.refl | exact SubH.app) ?_ | (refine ⟨?_, AAt.of (by first | exact SubH.refl | exact SubH.app) ?_⟩; · omega)
        refine AAny.one 5 0 (by kernel_rfl) (by kernel_rfl) (by kernel_rfl) ?_
        simp -dsimp -implicitDefEqProofs (disch := omega) [go_sem, -List.getD_eq_getElem?_getD, ite_yes, hlt, hlti, hk1, hki, cnet, klt, gtp, gt, gu, gus]
        first | refine AAt.of (by first | exact SubH.refl | exact SubH.app) ?_ | (refine ⟨?_, AAt.of (by first | exact SubH.refl | exact SubH.app) ?_⟩; · omega)
        refine AAny.one 4 7 (by kernel_rfl) (by kernel_rfl) (by kernel_rfl) ?_
        simp -dsimp -implicitDefEqProofs (disch := omega) [go_sem, -List.getD_eq_getElem?_getD, ite_yes, hlt, hlti, hk1, hki, cnet, klt, gtp, gt, gu, gus]
        refine ACall.of (o1 _ tp _ gP.app (by first | exact Sl.of rfl | exact Sl.nth 1 rfl rfl | exact Sl.nth 2 rfl rfl)) ?_
        simp -dsimp -implicitDefEqProofs (disch := omega) [go_sem, -List.getD_eq_getElem?_getD, ite_yes, hlt, hlti, hk1, hki, cnet, klt, gtp, gt, gu, gus]
        first | refine AAt.of (by first | exact SubH.refl | exact SubH.app) ?_ | (refine ⟨?_, AAt.of (by first | exact SubH.refl | exact SubH.app) ?_⟩; · omega)
        refine AAny.one 3 14 (by kernel_rfl) (by kernel_rfl) (by kernel_rfl) ?_
        simp -dsimp -implicitDefEqProofs (disch := omega) [go_sem, -List.getD_eq_getElem?_getD, ite_yes, hlt, hlti, hk1, hki, cnet, klt, gtp, gt, gu, gus]
        first | refine ACall.of (openedT_A l (by omega) c a (k + 1) hlt (by omega) (k + 1) _ t u gS.app gU.app) ?_ | refine ACall.of (openedT_A l (by omega) c a (k + 1) hlt (by omega) (k + 1) _ t u gS gU) ?_
        simp -dsimp -implicitDefEqProofs (disch := omega) [go_sem, -List.getD_eq_getElem?_getD, ite_yes, hlt, hlti, hk1, hki, cnet, klt, gtp, gt, gu, gus]
        first | refine AAt.of (by first | exact SubH.refl | exact SubH.app) ?_ | (refine ⟨?_, AAt.of (by first | exact SubH.refl | exact SubH.app) ?_⟩; · omega)
        refine AAny.one 2 16 (by kernel_rfl) (by kernel_rfl) (by kernel_rfl) ?_
        simp -dsimp -implicitDefEqProofs (disch := omega) [go_sem, -List.getD_eq_getElem?_getD, ite_yes, hlt, hlti, hk1, hki, cnet, klt, gtp, gt, gu, gus]
        refine ACall.of (o2 _ tp _ gP.app (by first | exact Sl.of rfl | exact Sl.nth 1 rfl rfl | exact Sl.nth 2 rfl rfl)) ?_
        simp -dsimp -implicitDefEqProofs (disch := omega) [go_sem, -List.getD_eq_getElem?_getD, ite_yes, hlt, hlti, hk1, hki, cnet, klt, gtp, gt, gu, gus]
        first | refine AAt.of (by first | exact SubH.refl | exact SubH.app) ?_ | (refine ⟨?_, AAt.of (by first | exact SubH.refl | exact SubH.app) ?_⟩; · omega)
        refine AAny.takes (fuel := 0) (by kernel_rfl) (by kernel_rfl) [17, 18] (by kernel_rfl) (by kernel_rfl) ?_
        simp -dsimp -implicitDefEqProofs (disch := omega) [go_sem, -List.getD_eq_getElem?_getD, ite_yes, hlt, hlti, hk1, hki, cnet, klt, gtp, gt, gu, gus]
        refine AAny.done (by kernel_rfl) ?_
        simp -dsimp -implicitDefEqProofs (disch := omega) [go_sem, -List.getD_eq_getElem?_getD, ite_yes, hlt, hlti, hk1, hki, cnet, klt, gtp, gt, gu, gus]
        first | exact ⟨weakS_vmk hV [some 1, some 3] rfl (by simp -dsimp -implicitDefEqProofs (disch := omega) [go_sem, -List.getD_eq_getElem?_getD, ite_yes]; exact ⟨.inl ⟨rfl, bl_flat _⟩, .inl ⟨rfl, bl_flat _⟩⟩) (by simp -dsimp -implicitDefEqProofs (disch := omega) [go_sem, -List.getD_eq_getElem?_getD, ite_yes, gtp, gt, gu, gus, klt])⟩ | exact ⟨weakS_vmk hV [some 2, some 3] rfl (by simp -dsimp -implicitDefEqProofs (disch := omega) [go_sem, -List.getD_eq_getElem?_getD, ite_yes]; exact ⟨.inl ⟨rfl, bl_flat _⟩, .inl ⟨rfl, bl_flat _⟩⟩) (by simp -dsimp -implicitDefEqProofs (disch := omega) [go_sem, -List.getD_eq_getElem?_getD, ite_yes, gtp, gt, gu, gus, klt])⟩ | exact ⟨weakS_vmk hV [some 3, some 2] rfl (by simp -dsimp -implicitDefEqProofs (disch := omega) [go_sem, -List.getD_eq_getElem?_getD, ite_yes]; exact ⟨.inl ⟨rfl, bl_flat _⟩, .inl ⟨rfl, bl_flat _⟩⟩) (by simp -dsimp -implicitDefEqProofs (disch := omega) [go_sem, -List.getD_eq_getElem?_getD, ite_yes, gtp, gt, gu, gus, klt])⟩ | exact ⟨weakS_vmk hV [some 3, some 1] rfl (by simp -dsimp -implicitDefEqProofs (disch := omega) [go_sem, -List.getD_eq_getElem?_getD, ite_yes]; exact ⟨.inl ⟨rfl, bl_flat _⟩, .inl ⟨rfl, bl_flat _⟩⟩) (by simp -dsimp -implicitDefEqProofs (disch := omega) [go_sem, -List.getD_eq_getElem?_getD, ite_yes, gtp, gt, gu, gus, klt])⟩
  obtain ⟨q, rfl⟩ : ∃ q : Nat, n = (q : Int) := ⟨n.toNat, by omega⟩
  rw [Int.toNat_natCast] at en
  have cR := hrows.sl.all1 (g := fun r : Rw => Value.slice (some ⟨r.1, 0, none⟩) r.2.2.length r.2.1)
  rw [rwE_map] at cR
  have m1 : (R1.map Value.bool).length = 19 := by rw [List.length_map, hl1]
  have m2 : (R2.map Value.bool).length = 19 := by rw [List.length_map, hl2]
  simp -dsimp -implicitDefEqProofs (disch := omega) [go_sem, -List.getD_eq_getElem?_getD, ite_yes, klt, gtp, gt, gu, gus]
  refine ALoop.intro (ι := Nat) (fun j => j ≤ q) (fun j => [(1, .slice (some ⟨t, 0, none⟩) l.length c), (2, .int .i64 src), (3, .slice (some ⟨u, 0, none⟩) a.length d), (4, .pointer (some ⟨H.length, 0, none⟩)), (10, .slice (some ⟨us, 0, none⟩) R.length 0), (24, .int .i64 a.length), (25, .int .i64 k), (12, .pointer (some ⟨G.length, 0, none⟩)), (13, .pointer (some ⟨G.length + 1, 0, none⟩)), (14, .slice (some ⟨G.length + 2, 0, none⟩) (nwTo R1 R2 j).length 0), (15, .int .i64 ((j : Int) + 1))])
    (fun j => G ++ [some ⟨R1.map .bool, true, 124, 1⟩, some ⟨R2.map .bool, true, 124, 1⟩, some ⟨(nwTo R1 R2 j).flatMap nmE, true, 3, 1⟩]) (fun j => q - j) 0 (by omega) ?_ ?_
  · refine weakS_vmk hV [some 0, some 1, some 2] rfl ?_ (by simp -dsimp -implicitDefEqProofs (disch := omega) [go_sem, -List.getD_eq_getElem?_getD, ite_yes, gtp, gt, gu, gus, klt, nwTo])
    simp -dsimp -implicitDefEqProofs (disch := omega) [go_sem, -List.getD_eq_getElem?_getD, ite_yes, nwTo]
    exact ⟨.inl ⟨rfl, bl_flat _⟩, .inl ⟨rfl, bl_flat _⟩, .inl ⟨rfl, rfl⟩⟩
  intro j hj
  have hdl := nwTo_length R1 R2 j
  have hfl : ((nwTo R1 R2 j).flatMap nmE).length = (nwTo R1 R2 j).length := by rw [nmE_length]; omega
  by_cases hjl : j < q
  · have h1 : (j : Int) + 1 ≤ (q : Int) := by omega
    have hj1 : ((j : Int) + 1).toNat = j + 1 := by omega
    have hj19 : j + 1 < 19 := by omega
    have hjn : (j : Int) + 1 < 19 := by omega
    have c1 := bl_cell R1 (q := j + 1) (by omega)
    have c2 := bl_cell R2 (q := j + 1) (by omega)
    have e : nwTo R1 R2 (j + 1) = if (R2.getD (j + 1) false && !R1.getD (j + 1) false) = true then nwTo R1 R2 j ++ [((j + 1 : Nat) : Int)] else nwTo R1 R2 j := rfl
    cases hh2 : R2.getD (j + 1) false <;> rw [hh2] at c2 e
    · rw [if_neg (by simp)] at e
      simp -dsimp -implicitDefEqProofs (disch := omega) [go_sem, -List.getD_eq_getElem?_getD, ite_yes, h1, hj1, hj19, hjn, c1, c2, m1, m2, hl1, hl2, klt, gtp, gt, gu, gus, cnet0, hfl]
      refine LoopEnd.of (j + 1) (by omega) (by omega) (weakS_vmk hV [some 0, some 1, some 2] rfl ?_ (by simp -dsimp -implicitDefEqProofs (disch := omega) [go_sem, -List.getD_eq_getElem?_getD, ite_yes, gtp, gt, gu, gus, klt, e]))
      simp -dsimp -implicitDefEqProofs (disch := omega) [go_sem, -List.getD_eq_getElem?_getD, ite_yes, e]
      exact ⟨.inl ⟨rfl, bl_flat _⟩, .inl ⟨rfl, bl_flat _⟩, .inl ⟨rfl, nmE_flat _⟩⟩
    cases hh1 : R1.getD (j + 1) false <;> rw [hh1] at c1 e
    · rw [if_pos (by rfl)] at e
      simp -dsimp -implicitDefEqProofs (disch := omega) [go_sem, -List.getD_eq_getElem?_getD, ite_yes, h1, hj1, hj19, hjn, c1, c2, m1, m2, hl1, hl2, klt, gtp, gt, gu, gus, cnet0, hfl]
      refine ⟨by omega, LoopEnd.of (j + 1) (by omega) (by omega) (weakS_vmk hV [some 0, some 1, some 4] rfl ?_ (by simp -dsimp -implicitDefEqProofs (disch := omega) [go_sem, -List.getD_eq_getElem?_getD, ite_yes, gtp, gt, gu, gus, klt, e]))⟩
      simp -dsimp -implicitDefEqProofs (disch := omega) [go_sem, -List.getD_eq_getElem?_getD, ite_yes]
      exact ⟨.inl ⟨rfl, bl_flat _⟩, .inl ⟨rfl, bl_flat _⟩, .inl ⟨by rw [e, List.flatMap_append]; rfl, by rw [show List.flatMap nmE (nwTo R1 R2 j) ++ [Value.int IntKind.i64 (↑j + 1)] = List.flatMap nmE (nwTo R1 R2 (j + 1)) by rw [e, List.flatMap_append]; rfl]; exact nmE_flat _⟩⟩
    · rw [if_neg (by simp)] at e
      simp -dsimp -implicitDefEqProofs (disch := omega) [go_sem, -List.getD_eq_getElem?_getD, ite_yes, h1, hj1, hj19, hjn, c1, c2, m1, m2, hl1, hl2, klt, gtp, gt, gu, gus, cnet0, hfl]
      refine LoopEnd.of (j + 1) (by omega) (by omega) (weakS_vmk hV [some 0, some 1, some 2] rfl ?_ (by simp -dsimp -implicitDefEqProofs (disch := omega) [go_sem, -List.getD_eq_getElem?_getD, ite_yes, gtp, gt, gu, gus, klt, e]))
      simp -dsimp -implicitDefEqProofs (disch := omega) [go_sem, -List.getD_eq_getElem?_getD, ite_yes, e]
      exact ⟨.inl ⟨rfl, bl_flat _⟩, .inl ⟨rfl, bl_flat _⟩, .inl ⟨rfl, nmE_flat _⟩⟩
  obtain rfl : j = q := by omega
  have h1 : ¬ (j : Int) + 1 ≤ (j : Int) := by omega
  rw [← en] at hdl hfl ⊢
  have hrf := rwE_length R
  have gR := fun L => (Heap.get_append_left (L := L) gus).trans hrows.sp
  have hR6 : R.length ≤ 6 := by omega
  simp -dsimp -implicitDefEqProofs (disch := omega) [go_sem, -List.getD_eq_getElem?_getD, ite_yes, h1, klt, gtp, gt, gu, gus, cnet0, cR, gR, hrf]
  refine ⟨by omega, ?_⟩
  refine LoopEnd.of (⟨k + 1, G.length + 1, R ++ [(G.length, 0, F)], G.set us none ++ [some ⟨F.flatMap nmE, true, 3, 1⟩, some ⟨(R ++ [(G.length, 0, F)]).flatMap rwE, true, 24, 1⟩]⟩ : NwSt) (nx hlt) (by first | omega | (simp only; omega)) ?_
  dsimp only
  refine weakS_vmk (K := G.set us none) (L' := [some ⟨F.flatMap nmE, true, 3, 1⟩, some ⟨(R ++ [(G.length, 0, F)]).flatMap rwE, true, 24, 1⟩]) hV.unset [some 2, some 4] rfl ?_ ?_
  rotate_left
  · simp -dsimp -implicitDefEqProofs (disch := omega) [go_sem, -List.getD_eq_getElem?_getD, ite_yes, gtp, gt, gu, gus, klt]
  simp -dsimp -implicitDefEqProofs (disch := omega) [go_sem, -List.getD_eq_getElem?_getD, ite_yes]
  refine ⟨.inl ⟨rfl, nmE_flat _⟩, ?_⟩
  exact wl_spine (js := [some 2, some 4]) (p := 2) (q := 2) (fun r hr => hrows.rlt hr) (by simp [sg]) (fun t ht => by simp [sg, ht]) (by omega)
end Go.Proofs.Ytncblopbcnkinaa
/- NewlyWet: the reference's walk, and both sides where no order is given. -/
namespace Go.Proofs.Ytncblopbcnkinaa
open Go.Am
set_option linter.unusedVariables false
set_option linter.unusedSimpArgs false
set_option maxRecDepth 100000
set_option maxHeartbeats 8000000
theorem iNewly_bad (n : Int) (ps : List Pp) (hps : ps.length ≤ 1048577) (cp : Nat) (l : List Vl) (hl : l.length ≤ 1048577) (c : Nat) (src : Int) (a : List Int) (ha : a.length ≤ 1048577) (ho : isOrd n ps l src a = false) (d : Nat) (H : Heap) (tp t u : Nat) (hP : Sl ppE H tp ps) (hS : Sl vlE H t l) (hU : Sl nmE H u a) :
    AFunC Try.prog 24 [netV n tp ps.length cp, .slice (some ⟨t, 0, none⟩) l.length c, .int .i64 src, .slice (some ⟨u, 0, none⟩) a.length d] H (.tuple #[.slice none 0 0, .bool false]) H := by
  refine AFunC.of_body Try.func24 (by kernel_rfl) rfl (by kernel_rfl) (by simp [Try.ntmps24]) ?_
  have htp := hP.lt
  have ht := hS.lt
  have hu := hU.lt
  simp -dsimp -implicitDefEqProofs (disch := omega) [go_sem, -List.getD_eq_getElem?_getD, ite_yes, htp, ht, hu]
  refine ACall.of (iIsOrder_A n ps hps cp l hl c src a ha d _ tp t u hP.app hS.app hU.app) ?_
  simp -dsimp -implicitDefEqProofs (disch := omega) [go_sem, -List.getD_eq_getElem?_getD, ite_yes, ho, htp, ht, hu]
  exact fin_flat rfl rfl
theorem sNewly_bad (n : Int) (ps : List Pp) (hps : ps.length ≤ 1048577) (cp : Nat) (l : List Vl) (hl : l.length ≤ 1048577) (c : Nat) (src : Int) (a : List Int) (ha : a.length ≤ 1048577) (ho : isOrd n ps l src a = false) (d : Nat) (H : Heap) (tp t u : Nat) (hP : Sl ppE H tp ps) (hS : Sl vlE H t l) (hU : Sl nmE H u a) :
    AFunC Try.prog 25 [netV n tp ps.length cp, .slice (some ⟨t, 0, none⟩) l.length c, .int .i64 src, .slice (some ⟨u, 0, none⟩) a.length d] H (.tuple #[.slice (some ⟨H.length, 0, none⟩) 0 0, .bool false]) (H ++ [some ⟨[], true, 24, 1⟩]) := by
  refine AFunC.of_body Try.func25 (by kernel_rfl) rfl (by kernel_rfl) (by simp [Try.ntmps25]) ?_
  have htp := hP.lt
  have ht := hS.lt
  have hu := hU.lt
  simp -dsimp -implicitDefEqProofs (disch := omega) [go_sem, -List.getD_eq_getElem?_getD, ite_yes, htp, ht, hu]
  refine ACall.of (l18Order_A n ps hps cp l hl c src a ha d _ tp t u hP.app hS.app hU.app) ?_
  simp -dsimp -implicitDefEqProofs (disch := omega) [go_sem, -List.getD_eq_getElem?_getD, ite_yes, ho, htp, ht, hu]
  refine fin_list [some 1] rfl ?_ (by simp -dsimp -implicitDefEqProofs (disch := omega) [go_sem, -List.getD_eq_getElem?_getD, ite_yes])
  simp -dsimp -implicitDefEqProofs (disch := omega) [go_sem, -List.getD_eq_getElem?_getD, ite_yes]
  exact .inl ⟨rfl, rfl⟩
theorem dryT_A (n : Int) (ps : List Pp) (hN : NetAt n ps) (cp : Nat) (l : List Vl) (hl : l.length ≤ 1048577) (c : Nat) (src : Int) (hsrc : 1 ≤ src ∧ src ≤ n) (a : List Int) (k : Nat) (hk : k ≤ a.length) (ha : a.length ≤ 1048577) (d : Nat) (H : Heap) (tp t u : Nat) (hP : Sl ppE H tp ps) (hS : Sl vlE H t l) (hU : Sl nmE H u a) :
    AFunC Try.prog 69 [netV n tp ps.length cp, .slice (some ⟨t, 0, none⟩) l.length c, .int .i64 src, .slice (some ⟨u, 0, none⟩) k d] H (.slice (some ⟨H.length, 0, none⟩) (dryO n ps l src (a.take k)).length 0) (H ++ [some ⟨(dryO n ps l src (a.take k)).flatMap nmE, true, 3, 1⟩]) := by
  have := l18Dry_A n ps hN cp l hl c src hsrc (a.take k) (by rw [List.length_take]; omega) d 0 H tp t u hP hS (IdS.of (hU.take k))
  rwa [List.length_take_of_le hk] at this
theorem sNewly_R (n : Int) (ps : List Pp) (cp : Nat) (l : List Vl) (c : Nat) (src : Int) (a : List Int) (ho : isOrd n ps l src a = true) (d : Nat) (H : Heap) (tp t u : Nat) (hP : Sl ppE H tp ps) (hS : Sl vlE H t l) (hU : Sl nmE H u a) :
    AFunR Try.prog 25 [netV n tp ps.length cp, .slice (some ⟨t, 0, none⟩) l.length c, .int .i64 src, .slice (some ⟨u, 0, none⟩) a.length d] H (NwOut H (nwL n ps l src a a.length)) := by
  refine AFunR.of_body Try.func25 (by kernel_rfl) rfl (by kernel_rfl) (by simp [Try.ntmps25]) ?_
  have htp := hP.lt
  have ht := hS.lt
  have hu := hU.lt
  have ho' := ho
  unfold isOrd at ho'
  rw [Bool.and_eq_true] at ho'
  obtain ⟨hq, hob⟩ := ho'
  obtain ⟨hg, hN, hl10, hsrc, hs6⟩ := askR_at hq
  have hpl := hN.f_len
  have hn := hN.f_n
  have hperm := ordB_perm hob
  have hal := hperm.length_eq
  simp -dsimp -implicitDefEqProofs (disch := omega) [go_sem, -List.getD_eq_getElem?_getD, ite_yes, htp, ht, hu]
  refine ACall.of (l18Order_A n ps (by omega) cp l (by omega) c src a (by omega) d _ tp t u hP.app hS.app hU.app) ?_
  simp -dsimp -implicitDefEqProofs (disch := omega) [go_sem, -List.getD_eq_getElem?_getD, ite_yes, ho, htp, ht, hu]
  refine ALoop.intro (ι := NwSt) (fun i => NwInv n ps l src a tp cp H i) (fun i => [(1, .slice (some ⟨t, 0, none⟩) l.length c), (2, .int .i64 src), (3, .slice (some ⟨u, 0, none⟩) a.length d), (4, .pointer (some ⟨H.length, 0, none⟩)), (10, .slice (some ⟨i.u, 0, none⟩) i.R.length 0), (11, .int .i64 i.k)]) (fun i => i.G) (fun i => a.length - i.k) _ (NwInv.start n ps l src a tp cp H htp) ?_ ?_
  · exact weakS_vk (NwInv.start n ps l src a tp cp H htp).vk (by simp -dsimp -implicitDefEqProofs (disch := omega) [go_sem, -List.getD_eq_getElem?_getD, ite_yes, htp, ht, hu])
  intro i hi
  have nx := fun hk => hi.next hk 0
  obtain ⟨k, us, R, G⟩ := i
  have hk := hi.le
  have hrl := hi.rl
  have hrows := hi.rows
  have hV := hi.vk
  have hQ := hi.kq
  have cnet := hi.net
  have cnet0 := hi.net0
  have klt := hi.lt
  have hrw := hi.rw
  simp only at hk hrl hrows hV hQ cnet cnet0 klt hrw nx ⊢
  have gtp : tp < G.length := by omega
  have gt : t < G.length := by omega
  have gu : u < G.length := by omega
  have gus := hrows.lt
  have gP := hQ.sl hP
  have gS := hQ.sl hS
  have gU := hQ.sl hU
  by_cases hlt : k < a.length
  rotate_left
  · obtain rfl : k = a.length := by omega
    simp -dsimp -implicitDefEqProofs (disch := omega) [go_sem, -List.getD_eq_getElem?_getD, ite_yes, hlt]
    exact EndR.of (.tuple #[.slice (some ⟨us, 0, none⟩) R.length 0, .bool true]) G ⟨R, us, rfl, hrw, hrows.le (by omega), hV, hQ⟩ (fin_vk hV (by simp -dsimp -implicitDefEqProofs (disch := omega) [go_sem, -List.getD_eq_getElem?_getD, ite_yes, gus]))
  have hk1 : ((k : Int) + 1).toNat = k + 1 := by omega
  have hki : (k : Int) + 1 ≤ (a.length : Int) := by omega
  have hlti : (k : Int) < (a.length : Int) := by omega
  have en : nwF n ps l src a k = spTo (dryO n ps l src (a.take k)) (dryO n ps l src (a.take (k + 1))) (dryO n ps l src (a.take k)).length := (spTo_eq _ _ _ n.toNat (Nat.le_refl _)).symm
  have o1 := dryT_A n ps hN cp l (by omega) c src hsrc a k hk (by omega) k
  have o2 := dryT_A n ps hN cp l (by omega) c src hsrc a (k + 1) hlt (by omega) (k + 1)
  have hl1 := dryO_length n ps l src (a.take k)
  have hl2 := dryO_length n ps l src (a.take (k + 1))
  generalize nwF n ps l src a k = F at *
  generalize dryO n ps l src (a.take k) = D at *
  generalize dryO n ps l src (a.take (k + 1)) = E at *
  simp -dsimp -implicitDefEqProofs (disch := omega) [go_sem, -List.getD_eq_getElem?_getD, ite_yes, hlt, hlti]
  refine ADraw.mid [(1, .slice (some ⟨t, 0, none⟩) l.length c), (2, .int .i64 src), (3, .slice (some ⟨u, 0, none⟩) a.length d), (4, .pointer (some ⟨H.length, 0, none⟩)), (10, .slice (some ⟨us, 0, none⟩) R.length 0), (11, .int .i64 k), (12, .slice (some ⟨G.length, 0, none⟩) D.length 0), (13, .slice (some ⟨G.length + 1, 0, none⟩) E.length 0)] (G ++ [some ⟨D.flatMap nmE, true, 3, 1⟩, some ⟨E.flatMap nmE, true, 3, 1⟩]) ?_ ?_
  · skip
    refine ADraw.any G (by kernel_rfl) (SubH.refl) ?_
    refine AAny.takes (fuel := 6) (by kernel_rfl) (by kernel_rfl) [1, 2, 3, 4, 5, 8, 9, 10, 11, 12, 13] (by kernel_rfl) (by kernel_rfl) ?_
    simp -dsimp -implicitDefEqProofs (disch := omega) [go_sem, -List.getD_eq_getElem?_getD, ite_yes, hlt, hlti, hk1, hki, cnet, klt, gtp, gt, gu, gus]
    refine AAny.two 5 0 7 (by kernel_rfl) (by kernel_rfl) (by kernel_rfl) ?_ ?_
    · simp -dsimp -implicitDefEqProofs (disch := omega) [go_sem, -List.getD_eq_getElem?_getD, ite_yes, hlt, hlti, hk1, hki, cnet, klt, gtp, gt, gu, gus]
      first | refine AAt.of (by first | exact SubH.refl | exact SubH.app) ?_ | (refine ⟨?_, AAt.of (by first | exact SubH.refl | exact SubH.app) ?_⟩; · omega)
      refine AAny.two 4 6 7 (by kernel_rfl) (by kernel_rfl) (by kernel_rfl) ?_ ?_
      · simp -dsimp -implicitDefEqProofs (disch := omega) [go_sem, -List.getD_eq_getElem?_getD, ite_yes, hlt, hlti, hk1, hki, cnet, klt, gtp, gt, gu, gus]
        first | refine ACall.of (o1 _ tp t u gP.app gS.app gU.app) ?_ | refine ACall.of (o1 _ tp t u gP gS gU) ?_
        simp -dsimp -implicitDefEqProofs (disch := omega) [go_sem, -List.getD_eq_getElem?_getD, ite_yes, hlt, hlti, hk1, hki, cnet, klt, gtp, gt, gu, gus]
        first | refine AAt.of (by first | exact SubH.refl | exact SubH.app) ?_ | (refine ⟨?_, AAt.of (by first | exact SubH.refl | exact SubH.app) ?_⟩; · omega)
        refine AAny.one 3 7 (by kernel_rfl) (by kernel_rfl) (by kernel_rfl) ?_
        simp -dsimp -implicitDefEqProofs (disch := omega) [go_sem, -List.getD_eq_getElem?_getD, ite_yes, hlt, hlti, hk1, hki, cnet, klt, gtp, gt, gu, gus]
        first | refine AAt.of (by first | exact SubH.refl | exact SubH.app) ?_ | (refine ⟨?_, AAt.of (by first | exact SubH.refl | exact SubH.app) ?_⟩; · omega)
        refine AAny.one 2 14 (by kernel_rfl) (by kernel_rfl) (by kernel_rfl) ?_
        simp -dsimp -implicitDefEqProofs (disch := omega) [go_sem, -List.getD_eq_getElem?_getD, ite_yes, hlt, hlti, hk1, hki, cnet, klt, gtp, gt, gu, gus]
        first | refine ACall.of (o2 _ tp t u gP.app gS.app gU.app) ?_ | refine ACall.of (o2 _ tp t u gP gS gU) ?_
        simp -dsimp -implicitDefEqProofs (disch := omega) [go_sem, -List.getD_eq_getElem?_getD, ite_yes, hlt, hlti, hk1, hki, cnet, klt, gtp, gt, gu, gus]
        first | refine AAt.of (by first | exact SubH.refl | exact SubH.app) ?_ | (refine ⟨?_, AAt.of (by first | exact SubH.refl | exact SubH.app) ?_⟩; · omega)
        refine AAny.takes (fuel := 0) (by kernel_rfl) (by kernel_rfl) [15, 16] (by kernel_rfl) (by kernel_rfl) ?_
        simp -dsimp -implicitDefEqProofs (disch := omega) [go_sem, -List.getD_eq_getElem?_getD, ite_yes, hlt, hlti, hk1, hki, cnet, klt, gtp, gt, gu, gus]
        refine AAny.done (by kernel_rfl) ?_
        simp -dsimp -implicitDefEqProofs (disch := omega) [go_sem, -List.getD_eq_getElem?_getD, ite_yes, hlt, hlti, hk1, hki, cnet, klt, gtp, gt, gu, gus]
        first | exact ⟨weakS_vmk hV [some 0, some 1] rfl (by simp -dsimp -implicitDefEqProofs (disch := omega) [go_sem, -List.getD_eq_getElem?_getD, ite_yes]; exact ⟨.inl ⟨rfl, nmE_flat _⟩, .inl ⟨rfl, nmE_flat _⟩⟩) (by simp -dsimp -implicitDefEqProofs (disch := omega) [go_sem, -List.getD_eq_getElem?_getD, ite_yes, gtp, gt, gu, gus, klt])⟩ | exact ⟨weakS_vmk hV [some 1, some 0] rfl (by simp -dsimp -implicitDefEqProofs (disch := omega) [go_sem, -List.getD_eq_getElem?_getD, ite_yes]; exact ⟨.inl ⟨rfl, nmE_flat _⟩, .inl ⟨rfl, nmE_flat _⟩⟩) (by simp -dsimp -implicitDefEqProofs (disch := omega) [go_sem, -List.getD_eq_getElem?_getD, ite_yes, gtp, gt, gu, gus, klt])⟩
      · simp -dsimp -implicitDefEqProofs (disch := omega) [go_sem, -List.getD_eq_getElem?_getD, ite_yes, hlt, hlti, hk1, hki, cnet, klt, gtp, gt, gu, gus]
        first | refine AAt.of (by first | exact SubH.refl | exact SubH.app) ?_ | (refine ⟨?_, AAt.of (by first | exact SubH.refl | exact SubH.app) ?_⟩; · omega)
        refine AAny.one 3 6 (by kernel_rfl) (by kernel_rfl) (by kernel_rfl) ?_
        simp -dsimp -implicitDefEqProofs (disch := omega) [go_sem, -List.getD_eq_getElem?_getD, ite_yes, hlt, hlti, hk1, hki, cnet, klt, gtp, gt, gu, gus]
        first | refine ACall.of (o1 _ tp t u gP.app gS.app gU.app) ?_ | refine ACall.of (o1 _ tp t u gP gS gU) ?_
        simp -dsimp -implicitDefEqProofs (disch := omega) [go_sem, -List.getD_eq_getElem?_getD, ite_yes, hlt, hlti, hk1, hki, cnet, klt, gtp, gt, gu, gus]
        first | refine AAt.of (by first | exact SubH.refl | exact SubH.app) ?_ | (refine ⟨?_, AAt.of (by first | exact SubH.refl | exact SubH.app) ?_⟩; · omega)
        refine AAny.one 2 14 (by kernel_rfl) (by kernel_rfl) (by kernel_rfl) ?_
        simp -dsimp -implicitDefEqProofs (disch := omega) [go_sem, -List.getD_eq_getElem?_getD, ite_yes, hlt, hlti, hk1, hki, cnet, klt, gtp, gt, gu, gus]
        first | refine ACall.of (o2 _ tp t u gP.app gS.app gU.app) ?_ | refine ACall.of (o2 _ tp t u gP gS gU) ?_
        simp -dsimp -implicitDefEqProofs (disch := omega) [go_sem, -List.getD_eq_getElem?_getD, ite_yes, hlt, hlti, hk1, hki, cnet, klt, gtp, gt, gu, gus]
        first | refine AAt.of (by first | exact SubH.refl | exact SubH.app) ?_ | (refine ⟨?_, AAt.of (by first | exact SubH.refl | exact SubH.app) ?_⟩; · omega)
        refine AAny.takes (fuel := 0) (by kernel_rfl) (by kernel_rfl) [15, 16] (by kernel_rfl) (by kernel_rfl) ?_
        simp -dsimp -implicitDefEqProofs (disch := omega) [go_sem, -List.getD_eq_getElem?_getD, ite_yes, hlt, hlti, hk1, hki, cnet, klt, gtp, gt, gu, gus]
        refine AAny.done (by kernel_rfl) ?_
        simp -dsimp -implicitDefEqProofs (disch := omega) [go_sem, -List.getD_eq_getElem?_getD, ite_yes, hlt, hlti, hk1, hki, cnet, klt, gtp, gt, gu, gus]
        first | exact ⟨weakS_vmk hV [some 0, some 1] rfl (by simp -dsimp -implicitDefEqProofs (disch := omega) [go_sem, -List.getD_eq_getElem?_getD, ite_yes]; exact ⟨.inl ⟨rfl, nmE_flat _⟩, .inl ⟨rfl, nmE_flat _⟩⟩) (by simp -dsimp -implicitDefEqProofs (disch := omega) [go_sem, -List.getD_eq_getElem?_getD, ite_yes, gtp, gt, gu, gus, klt])⟩ | exact ⟨weakS_vmk hV [some 1, some 0] rfl (by simp -dsimp -implicitDefEqProofs (disch := omega) [go_sem, -List.getD_eq_getElem?_getD, ite_yes]; exact ⟨.inl ⟨rfl, nmE_flat _⟩, .inl ⟨rfl, nmE_flat _⟩⟩) (by simp -dsimp -implicitDefEqProofs (disch := omega) [go_sem, -List.getD_eq_getElem?_getD, ite_yes, gtp, gt, gu, gus, klt])⟩
    · simp -dsimp -implicitDefEqProofs (disch := omega) [go_sem, -List.getD_eq_getElem?_getD, ite_yes, hlt, hlti, hk1, hki, cnet, klt, gtp, gt, gu, gus]
      first | refine AAt.of (by first | exact SubH.refl | exact SubH.app) ?_ | (refine ⟨?_, AAt.of (by first | exact SubH.refl | exact SubH.app) ?_⟩; · omega)
      refine AAny.one 4 0 (by kernel_rfl) (by kernel_rfl) (by kernel_rfl) ?_
      simp -dsimp -implicitDefEqProofs (disch := omega) [go_sem, -List.getD_eq_getElem?_getD, ite_yes, hlt, hlti, hk1, hki, cnet, klt, gtp, gt, gu, gus]
      first | refine AAt.of (by first | exact SubH.refl | exact SubH.app) ?_ | (refine ⟨?_, AAt.of (by first | exact SubH.refl | exact SubH.app) ?_⟩; · omega)
      refine AAny.one 3 6 (by kernel_rfl) (by kernel_rfl) (by kernel_rfl) ?_
      simp -dsimp -implicitDefEqProofs (disch := omega) [go_sem, -List.getD_eq_getElem?_getD, ite_yes, hlt, hlti, hk1, hki, cnet, klt, gtp, gt, gu, gus]
      first | refine ACall.of (o1 _ tp t u gP.app gS.app gU.app) ?_ | refine ACall.of (o1 _ tp t u gP gS gU) ?_
      simp -dsimp -implicitDefEqProofs (disch := omega) [go_sem, -List.getD_eq_getElem?_getD, ite_yes, hlt, hlti, hk1, hki, cnet, klt, gtp, gt, gu, gus]
      first | refine AAt.of (by first | exact SubH.refl | exact SubH.app) ?_ | (refine ⟨?_, AAt.of (by first | exact SubH.refl | exact SubH.app) ?_⟩; · omega)
      refine AAny.one 2 14 (by kernel_rfl) (by kernel_rfl) (by kernel_rfl) ?_
      simp -dsimp -implicitDefEqProofs (disch := omega) [go_sem, -List.getD_eq_getElem?_getD, ite_yes, hlt, hlti, hk1, hki, cnet, klt, gtp, gt, gu, gus]
      first | refine ACall.of (o2 _ tp t u gP.app gS.app gU.app) ?_ | refine ACall.of (o2 _ tp t u gP gS gU) ?_
      simp -dsimp -implicitDefEqProofs (disch := omega) [go_sem, -List.getD_eq_getElem?_getD, ite_yes, hlt, hlti, hk1, hki, cnet, klt, gtp, gt, gu, gus]
      first | refine AAt.of (by first | exact SubH.refl | exact SubH.app) ?_ | (refine ⟨?_, AAt.of (by first | exact SubH.refl | exact SubH.app) ?_⟩; · omega)
      refine AAny.takes (fuel := 0) (by kernel_rfl) (by kernel_rfl) [15, 16] (by kernel_rfl) (by kernel_rfl) ?_
      simp -dsimp -implicitDefEqProofs (disch := omega) [go_sem, -List.getD_eq_getElem?_getD, ite_yes, hlt, hlti, hk1, hki, cnet, klt, gtp, gt, gu, gus]
      refine AAny.done (by kernel_rfl) ?_
      simp -dsimp -implicitDefEqProofs (disch := omega) [go_sem, -List.getD_eq_getElem?_getD, ite_yes, hlt, hlti, hk1, hki, cnet, klt, gtp, gt, gu, gus]
      first | exact ⟨weakS_vmk hV [some 0, some 1] rfl (by simp -dsimp -implicitDefEqProofs (disch := omega) [go_sem, -List.getD_eq_getElem?_getD, ite_yes]; exact ⟨.inl ⟨rfl, nmE_flat _⟩, .inl ⟨rfl, nmE_flat _⟩⟩) (by simp -dsimp -implicitDefEqProofs (disch := omega) [go_sem, -List.getD_eq_getElem?_getD, ite_yes, gtp, gt, gu, gus, klt])⟩ | exact ⟨weakS_vmk hV [some 1, some 0] rfl (by simp -dsimp -implicitDefEqProofs (disch := omega) [go_sem, -List.getD_eq_getElem?_getD, ite_yes]; exact ⟨.inl ⟨rfl, nmE_flat _⟩, .inl ⟨rfl, nmE_flat _⟩⟩) (by simp -dsimp -implicitDefEqProofs (disch := omega) [go_sem, -List.getD_eq_getElem?_getD, ite_yes, gtp, gt, gu, gus, klt])⟩
  have cR := hrows.sl.all1 (g := fun r : Rw => Value.slice (some ⟨r.1, 0, none⟩) r.2.2.length r.2.1)
  rw [rwE_map] at cR
  simp -dsimp -implicitDefEqProofs (disch := omega) [go_sem, -List.getD_eq_getElem?_getD, ite_yes, klt, gtp, gt, gu, gus]
  refine ALoop.intro (ι := Nat) (fun j => j ≤ D.length) (fun j => [(1, .slice (some ⟨t, 0, none⟩) l.length c), (2, .int .i64 src), (3, .slice (some ⟨u, 0, none⟩) a.length d), (4, .pointer (some ⟨H.length, 0, none⟩)), (10, .slice (some ⟨us, 0, none⟩) R.length 0), (11, .int .i64 k), (12, .slice (some ⟨G.length, 0, none⟩) D.length 0), (13, .slice (some ⟨G.length + 1, 0, none⟩) E.length 0), (14, .slice (some ⟨G.length + 2, 0, none⟩) (spTo D E j).length 0), (15, .int .i64 j)])
    (fun j => G ++ [some ⟨D.flatMap nmE, true, 3, 1⟩, some ⟨E.flatMap nmE, true, 3, 1⟩, some ⟨(spTo D E j).flatMap nmE, true, 3, 1⟩]) (fun j => D.length - j) 0 (by omega) ?_ ?_
  · refine weakS_vmk hV [some 0, some 1, some 2] rfl ?_ (by simp -dsimp -implicitDefEqProofs (disch := omega) [go_sem, -List.getD_eq_getElem?_getD, ite_yes, gtp, gt, gu, gus, klt, spTo])
    simp -dsimp -implicitDefEqProofs (disch := omega) [go_sem, -List.getD_eq_getElem?_getD, ite_yes, spTo]
    exact ⟨.inl ⟨rfl, nmE_flat _⟩, .inl ⟨rfl, nmE_flat _⟩, .inl ⟨rfl, rfl⟩⟩
  intro j hj
  have hdl := spTo_length D E j
  have hfl : ((spTo D E j).flatMap nmE).length = (spTo D E j).length := by rw [nmE_length]; omega
  have hfD : (D.flatMap nmE).length = D.length := by rw [nmE_length]; omega
  by_cases hjl : j < D.length
  · have hjli : (j : Int) < (D.length : Int) := by omega
    have c1 := nm_cell1 D hjl
    have e : spTo D E (j + 1) = if hasI E (D.getD j 0) = true then spTo D E j else spTo D E j ++ [D.getD j 0] := rfl
    generalize D.getD j 0 = x at *
    simp -dsimp -implicitDefEqProofs (disch := omega) [go_sem, -List.getD_eq_getElem?_getD, ite_yes, hjl, hjli, c1, hfD, klt, gtp, gt, gu, gus]
    refine ACall.of (l1Has_A E x (by omega) 0 _ (G.length + 1) (Sl.nth 1 rfl rfl)) ?_
    cases hh : hasI E x <;> rw [hh] at e
    · rw [if_neg (by simp)] at e
      simp -dsimp -implicitDefEqProofs (disch := omega) [go_sem, -List.getD_eq_getElem?_getD, ite_yes, hjl, hjli, c1, hfD, klt, gtp, gt, gu, gus, hfl]
      refine ⟨by omega, LoopEnd.of (j + 1) (by omega) (by omega) (weakS_vmk hV [some 0, some 1, some 4] rfl ?_ (by simp -dsimp -implicitDefEqProofs (disch := omega) [go_sem, -List.getD_eq_getElem?_getD, ite_yes, gtp, gt, gu, gus, klt, e]))⟩
      simp -dsimp -implicitDefEqProofs (disch := omega) [go_sem, -List.getD_eq_getElem?_getD, ite_yes]
      exact ⟨.inl ⟨rfl, nmE_flat _⟩, .inl ⟨rfl, nmE_flat _⟩, .inl ⟨by rw [e, List.flatMap_append]; rfl, by rw [show List.flatMap nmE (spTo D E j) ++ [Value.int IntKind.i64 x] = List.flatMap nmE (spTo D E (j + 1)) by rw [e, List.flatMap_append]; rfl]; exact nmE_flat _⟩⟩
    · rw [if_pos rfl] at e
      simp -dsimp -implicitDefEqProofs (disch := omega) [go_sem, -List.getD_eq_getElem?_getD, ite_yes, hjl, hjli, c1, hfD, klt, gtp, gt, gu, gus, hfl]
      refine LoopEnd.of (j + 1) (by omega) (by omega) (weakS_vmk hV [some 0, some 1, some 2] rfl ?_ (by simp -dsimp -implicitDefEqProofs (disch := omega) [go_sem, -List.getD_eq_getElem?_getD, ite_yes, gtp, gt, gu, gus, klt, e]))
      simp -dsimp -implicitDefEqProofs (disch := omega) [go_sem, -List.getD_eq_getElem?_getD, ite_yes, e]
      exact ⟨.inl ⟨rfl, nmE_flat _⟩, .inl ⟨rfl, nmE_flat _⟩, .inl ⟨rfl, nmE_flat _⟩⟩
  obtain rfl : j = D.length := by omega
  have h1 : ¬ (D.length : Int) < (D.length : Int) := by omega
  rw [← en] at hdl hfl ⊢
  have hrf := rwE_length R
  have gR := fun L => (Heap.get_append_left (L := L) gus).trans hrows.sp
  have hR6 : R.length ≤ 6 := by omega
  simp -dsimp -implicitDefEqProofs (disch := omega) [go_sem, -List.getD_eq_getElem?_getD, ite_yes, h1, klt, gtp, gt, gu, gus, cnet0, cR, gR, hrf]
  refine ⟨by omega, ?_⟩
  refine LoopEnd.of (⟨k + 1, G.length + 1, R ++ [(G.length, 0, F)], G.set us none ++ [some ⟨F.flatMap nmE, true, 3, 1⟩, some ⟨(R ++ [(G.length, 0, F)]).flatMap rwE, true, 24, 1⟩]⟩ : NwSt) (nx hlt) (by first | omega | (simp only; omega)) ?_
  dsimp only
  refine weakS_vmk (K := G.set us none) (L' := [some ⟨F.flatMap nmE, true, 3, 1⟩, some ⟨(R ++ [(G.length, 0, F)]).flatMap rwE, true, 24, 1⟩]) hV.unset [some 2, some 4] rfl ?_ ?_
  rotate_left
  · simp -dsimp -implicitDefEqProofs (disch := omega) [go_sem, -List.getD_eq_getElem?_getD, ite_yes, gtp, gt, gu, gus, klt]
  simp -dsimp -implicitDefEqProofs (disch := omega) [go_sem, -List.getD_eq_getElem?_getD, ite_yes]
  refine ⟨.inl ⟨rfl, nmE_flat _⟩, ?_⟩
  exact wl_spine (js := [some 2, some 4]) (p := 2) (q := 2) (fun r hr => hrows.rlt hr) (by simp [sg]) (fun t ht => by simp [sg, ht]) (by omega)
end Go.Proofs.Ytncblopbcnkinaa
/- Helpers of the laws on Alarm. -/
namespace Go.Proofs.Ytncblopbcnkinaa
open Go.Am
set_option linter.unusedVariables false
set_option linter.unusedSimpArgs false
set_option maxRecDepth 100000

abbrev Al := Int × Int × Int × Bool
def alE (r : Al) : List Value := [.int .i64 (r.1), .int .i64 (r.2.1), .int .i64 (r.2.2.1), .bool (r.2.2.2)]
theorem alE_flat (l : List Al) : (l.flatMap alE).all flat = true := flatMap_flat fun _ => rfl
theorem alE_length (l : List Al) : (l.flatMap alE).length = l.length * 4 := flatMap_length alE 4 (fun _ => rfl) l
/-- the marks that a law writes into a list -/
def marksAl (k0 : Int) (n : Nat) : List Al := (List.range n).map fun (i : Nat) => (k0 + 4 * (i : Int) + 0, k0 + 4 * (i : Int) + 1, k0 + 4 * (i : Int) + 2, decide ((k0 + 4 * (i : Int) + 3) % 3 = 0))
theorem marksAl_length (k0 : Int) (n : Nat) : (marksAl k0 n).length = n := by simp [marksAl]
theorem marksAl_getD (k0 : Int) (n : Nat) {k : Nat} (h : k < n) : (marksAl k0 n).getD k (0, 0, 0, false) = (k0 + 4 * (k : Int) + 0, k0 + 4 * (k : Int) + 1, k0 + 4 * (k : Int) + 2, decide ((k0 + 4 * (k : Int) + 3) % 3 = 0)) := by simp [marksAl, List.getD, h]
def szAl (n left : Int) : Int := if left - n < 0 then -1 else left - n
theorem szAl_len {l : List Al} {n : Int} (h : ¬ szAl l.length n < 0) : (l.length : Int) ≤ n := by
  unfold szAl at h
  split at h <;> omega
theorem szAl_rng {n : Nat} {left : Int} (h : ¬ szAl n left < 0) (h2 : left ≤ 1048576) : 0 ≤ szAl n left ∧ szAl n left ≤ 1048576 := by
  unfold szAl at h ⊢
  split at h <;> split <;> omega
end Go.Proofs.Ytncblopbcnkinaa
/- The laws' vBig, vInts, vHas and vAlarms. -/
namespace Go.Proofs.Ytncblopbcnkinaa
open Go.Am
set_option linter.unusedVariables false
set_option linter.unusedSimpArgs false
set_option maxRecDepth 100000
set_option maxHeartbeats 1000000

theorem vBig_A (n cc : Nat) (a : Option Addr) (H : Heap) : AFunC Try.prog 22 [.slice a n cc] H (.bool (decide (65536 < (n : Int)))) H := by
  refine AFunC.of_body Try.func22 (by kernel_rfl) rfl (by kernel_rfl) (by simp [Try.ntmps22]) ?_
  simp -dsimp -implicitDefEqProofs (disch := omega) [go_sem, -List.getD_eq_getElem?_getD, ite_yes]
  exact fin_flat0 rfl (by first | rfl | simp)
theorem vInts_same (l : List Int) (hl : l.length ≤ 1048577) (c d : Nat) (H : Heap) (t u : Nat) (hS : Sl nmE H t l) (hU : Sl nmE H u l) :
    AFunC Try.prog 33 [.slice (some ⟨t, 0, none⟩) l.length c, .slice (some ⟨u, 0, none⟩) l.length d] H (.bool true) H := by
  refine AFunC.of_body Try.func33 (by kernel_rfl) rfl (by kernel_rfl) (by simp [Try.ntmps33]) ?_
  have ht := hS.lt
  have hu := hU.lt
  have cs := fun k hk => hS.one (g := fun n => Value.int .i64 n) 0 k hk
  have cu := fun k hk => hU.one (g := fun n => Value.int .i64 n) 0 k hk
  simp -dsimp -implicitDefEqProofs (disch := omega) [go_sem, -List.getD_eq_getElem?_getD, ite_yes]
  refine ALoop.intro (ι := Nat) (fun k => k ≤ l.length) (fun k => [(0, .slice (some ⟨t, 0, none⟩) l.length c), (1, .slice (some ⟨u, 0, none⟩) l.length d), (5, .int .i64 k)]) (fun _ => H) (fun k => l.length - k) 0 (by omega) ?_ ?_
  · exact weakS_same (by simp -dsimp -implicitDefEqProofs (disch := omega) [go_sem, -List.getD_eq_getElem?_getD, ite_yes, ht, hu])
  · intro k hk
    by_cases hlt : k < l.length
    · simp -dsimp -implicitDefEqProofs (disch := omega) [go_sem, -List.getD_eq_getElem?_getD, ite_yes, hlt]
      refine ADraw.quiet (by kernel_rfl) (by kernel_rfl) (by kernel_rfl) ?_
      simp -dsimp -implicitDefEqProofs (disch := omega) [go_sem, -List.getD_eq_getElem?_getD, ite_yes, hlt, cs, cu]
      refine LoopEnd.of (k + 1) (by omega) (by omega) (weakS_same (by simp -dsimp -implicitDefEqProofs (disch := omega) [go_sem, -List.getD_eq_getElem?_getD, ite_yes, ht, hu]))
    · simp -dsimp -implicitDefEqProofs (disch := omega) [go_sem, -List.getD_eq_getElem?_getD, ite_yes, hlt]
      exact fin_flat0 rfl rfl
theorem vInts_nil (d u : Nat) (H : Heap) : AFunC Try.prog 33 [.slice none 0 0, .slice (some ⟨u, 0, none⟩) 0 d] H (.bool true) H := by
  refine AFunC.of_body Try.func33 (by kernel_rfl) rfl (by kernel_rfl) (by simp [Try.ntmps33]) ?_
  simp -dsimp -implicitDefEqProofs (disch := omega) [go_sem, -List.getD_eq_getElem?_getD, ite_yes]
  refine ALoop.intro (ι := Unit) (fun _ => True) (fun _ => [(0, .slice none 0 0), (5, .int .i64 0)]) (fun _ => H) (fun _ => 0) () trivial ?_ ?_
  · exact weakS_same (by simp -dsimp -implicitDefEqProofs (disch := omega) [go_sem, -List.getD_eq_getElem?_getD, ite_yes])
  · intro _ _
    simp -dsimp -implicitDefEqProofs (disch := omega) [go_sem, -List.getD_eq_getElem?_getD, ite_yes]
    exact fin_flat0 rfl rfl
theorem vHas_no (l : List Int) (x : Int) (hx : ∀ k, k < l.length → l.getD k 0 ≠ x) (hl : l.length ≤ 1048577) (c : Nat) (H : Heap) (t : Nat) (hS : Sl nmE H t l) :
    AFunC Try.prog 29 [.slice (some ⟨t, 0, none⟩) l.length c, .int .i64 x] H (.bool false) H := by
  refine AFunC.of_body Try.func29 (by kernel_rfl) rfl (by kernel_rfl) (by simp [Try.ntmps29]) ?_
  have ht := hS.lt
  have cs := fun k hk => hS.one (g := fun n => Value.int .i64 n) 0 k hk
  simp -dsimp -implicitDefEqProofs (disch := omega) [go_sem, -List.getD_eq_getElem?_getD, ite_yes]
  refine ALoop.intro (ι := Nat) (fun k => k ≤ l.length) (fun k => [(0, .slice (some ⟨t, 0, none⟩) l.length c), (1, .int .i64 x), (5, .int .i64 k)]) (fun _ => H) (fun k => l.length - k) 0 (by omega) ?_ ?_
  · exact weakS_same (by simp -dsimp -implicitDefEqProofs (disch := omega) [go_sem, -List.getD_eq_getElem?_getD, ite_yes, ht])
  · intro k hk
    by_cases hlt : k < l.length
    · have hn := hx k hlt
      simp -dsimp -implicitDefEqProofs (disch := omega) [go_sem, -List.getD_eq_getElem?_getD, ite_yes, hlt, cs, hn]
      refine LoopEnd.of (k + 1) (by omega) (by omega) (weakS_same (by simp -dsimp -implicitDefEqProofs (disch := omega) [go_sem, -List.getD_eq_getElem?_getD, ite_yes, ht]))
    · simp -dsimp -implicitDefEqProofs (disch := omega) [go_sem, -List.getD_eq_getElem?_getD, ite_yes, hlt]
      exact fin_flat0 rfl rfl
theorem vHas_yes (l : List Int) (x : Int) (i : Nat) (hi : i < l.length) (hx : l.getD i 0 = x) (hl : l.length ≤ 1048577) (c : Nat) (H : Heap) (t : Nat) (hS : Sl nmE H t l) :
    AFunC Try.prog 29 [.slice (some ⟨t, 0, none⟩) l.length c, .int .i64 x] H (.bool true) H := by
  refine AFunC.of_body Try.func29 (by kernel_rfl) rfl (by kernel_rfl) (by simp [Try.ntmps29]) ?_
  have ht := hS.lt
  have cs := fun k hk => hS.one (g := fun n => Value.int .i64 n) 0 k hk
  simp -dsimp -implicitDefEqProofs (disch := omega) [go_sem, -List.getD_eq_getElem?_getD, ite_yes]
  refine ALoop.intro (ι := Nat) (fun k => k ≤ i) (fun k => [(0, .slice (some ⟨t, 0, none⟩) l.length c), (1, .int .i64 x), (5, .int .i64 k)]) (fun _ => H) (fun k => l.length - k) 0 (by omega) ?_ ?_
  · exact weakS_same (by simp -dsimp -implicitDefEqProofs (disch := omega) [go_sem, -List.getD_eq_getElem?_getD, ite_yes, ht])
  · intro k hk
    have hlt : k < l.length := by omega
    by_cases he : l.getD k 0 = x
    · simp -dsimp -implicitDefEqProofs (disch := omega) [go_sem, -List.getD_eq_getElem?_getD, ite_yes, hlt, cs, he]
      exact fin_flat0 rfl rfl
    · have : k ≠ i := fun e => he (by rw [e]; exact hx)
      simp -dsimp -implicitDefEqProofs (disch := omega) [go_sem, -List.getD_eq_getElem?_getD, ite_yes, hlt, cs, he]
      refine LoopEnd.of (k + 1) (by omega) (by omega) (weakS_same (by simp -dsimp -implicitDefEqProofs (disch := omega) [go_sem, -List.getD_eq_getElem?_getD, ite_yes, ht]))
end Go.Proofs.Ytncblopbcnkinaa
/- The laws' helpers on lists of lists of numbers. -/
namespace Go.Proofs.Ytncblopbcnkinaa
open Go.Am
set_option linter.unusedVariables false
set_option linter.unusedSimpArgs false
set_option maxRecDepth 100000
set_option maxHeartbeats 4000000
/-- how many numbers the first k rows have -/
def preN (R : List Rw) : Nat → Nat
  | 0 => 0
  | k + 1 => preN R k + (R.getD k rw0).2.2.length
theorem preN_le {R : List Rw} (h : ∀ r ∈ R, r.2.2.length ≤ 8) : ∀ k, k ≤ R.length → preN R k ≤ 8 * k
  | 0, _ => by simp [preN]
  | k + 1, hk => by
    have := preN_le h k (by omega)
    have := h _ (getD_mem (d := rw0) (show k < R.length by omega))
    rw [preN]
    omega
def mkRw (k0 : Int) (R : List Rw) (k : Nat) : Rw := ((R.getD k rw0).1, (R.getD k rw0).2.1, marksNm (k0 + (preN R k : Int)) (R.getD k rw0).2.2.length)
/-- the rows of which the first k are marked -/
def mkR (k0 : Int) (R : List Rw) : Nat → List Rw
  | 0 => R
  | k + 1 => (mkR k0 R k).set k (mkRw k0 R k)
def mkH (H : Heap) (k0 : Int) (R : List Rw) : Nat → Heap
  | 0 => H
  | k + 1 => (mkH H k0 R k).set (R.getD k rw0).1 (some ⟨(mkRw k0 R k).2.2.flatMap nmE, true, 3, 1⟩)
theorem mkR_length (k0 : Int) (R : List Rw) : ∀ k, (mkR k0 R k).length = R.length
  | 0 => rfl
  | k + 1 => by rw [mkR, List.length_set, mkR_length k0 R k]
theorem mkH_length (H : Heap) (k0 : Int) (R : List Rw) : ∀ k, (mkH H k0 R k).length = H.length
  | 0 => rfl
  | k + 1 => by rw [mkH, List.length_set, mkH_length H k0 R k]
theorem mkH_get {H : Heap} {k0 : Int} {R : List Rw} {t : Nat} (h : ∀ r ∈ R, r.1 ≠ t) : ∀ k, k ≤ R.length → (mkH H k0 R k).get t = H.get t
  | 0, _ => rfl
  | k + 1, hk => by
    have := h _ (getD_mem (d := rw0) (show k < R.length by omega))
    rw [mkH, Heap.get_set_ne (fun e => this e.symm), mkH_get h k (by omega)]
theorem mkR_getD {k0 : Int} {R : List Rw} : ∀ {k i : Nat}, k ≤ R.length → i < R.length → (mkR k0 R k).getD i rw0 = if i < k then mkRw k0 R i else R.getD i rw0
  | 0, i, _, _ => rfl
  | k + 1, i, hk, hi => by
    have ih := mkR_getD (k0 := k0) (R := R) (k := k) (i := i) (by omega) hi
    have hl := mkR_length k0 R k
    rw [mkR, List.getD_eq_getElem?_getD]
    by_cases e : k = i
    · subst e
      rw [List.getElem?_set_self (by omega), if_pos (by omega)]; rfl
    · rw [List.getElem?_set_ne e, ← List.getD_eq_getElem?_getD, ih]
      by_cases h : i < k
      · rw [if_pos h, if_pos (by omega)]
      · rw [if_neg h, if_neg (by omega)]
theorem rwE_map' (R : List Rw) : R.flatMap rwE = R.map (fun r : Rw => Value.slice (some ⟨r.1, 0, none⟩) r.2.2.length r.2.1) := by
  induction R with
  | nil => rfl
  | cons x l ih => rw [List.map_cons, List.flatMap_cons, ih]; rfl
/-- one row's numbers are others, as many as before -/
theorem RowsAt.put {H : Heap} {b0 u : Nat} {R : List Rw} (h : RowsAt H b0 u R) {k : Nat} (hk : k < R.length) (l : List Int) (hl : l.length = (R.getD k rw0).2.2.length) :
    RowsAt (H.set (R.getD k rw0).1 (some ⟨l.flatMap nmE, true, 3, 1⟩)) b0 u (R.set k ((R.getD k rw0).1, (R.getD k rw0).2.1, l)) := by
  have gk : R.getD k rw0 = R[k] := by rw [List.getD_eq_getElem?_getD, List.getElem?_eq_getElem hk]; rfl
  have hx := h.row _ (getD_mem (d := rw0) hk)
  have hlt := Heap.get_lt hx.2.2
  have same : ∀ {β : Type} (g : Rw → β), g ((R.getD k rw0).1, (R.getD k rw0).2.1, l) = g (R.getD k rw0) → (R.set k ((R.getD k rw0).1, (R.getD k rw0).2.1, l)).map g = R.map g := fun g e => by
    rw [List.map_set, e, gk]
    have : g R[k] = (R.map g)[k]'(by simpa using hk) := by simp
    rw [this, List.set_getElem_self]
  refine ⟨?_, h.lo, fun r hr => ?_, ?_⟩
  · rw [Heap.get_set_ne (fun e => hx.2.1 e.symm), h.sp, rwE_map', rwE_map', same _ (by simp only [hl])]
  · obtain ⟨j, hj, e⟩ := List.getElem_of_mem hr
    rw [List.getElem_set] at e
    by_cases ej : k = j
    · rw [if_pos ej] at e
      subst e
      exact ⟨hx.1, hx.2.1, Heap.get_set_self hlt⟩
    · rw [if_neg ej] at e
      have hj' : j < R.length := by simpa using hj
      have hm : r ∈ R := e ▸ List.getElem_mem hj'
      have hr' := h.row r hm
      have hne : r.1 ≠ (R.getD k rw0).1 := by
        rw [gk, ← e]
        intro e2
        have := List.pairwise_iff_getElem.1 h.dif
        rcases Nat.lt_or_ge j k with hlt | hge
        · exact this j k (by simpa using hj') (by simpa using hk) hlt (by simpa using e2)
        · exact this k j (by simpa using hk) (by simpa using hj') (by omega) (by simpa using e2.symm)
      exact ⟨hr'.1, hr'.2.1, (Heap.get_set_ne hne).trans hr'.2.2⟩
  · rw [same (fun r => r.1) rfl]; exact h.dif
theorem RowsAt.marked {H : Heap} {b0 u : Nat} {k0 : Int} {R : List Rw} (h : RowsAt H b0 u R) : ∀ k, k ≤ R.length → RowsAt (mkH H k0 R k) b0 u (mkR k0 R k)
  | 0, _ => h
  | k + 1, hk => by
    have ih := RowsAt.marked (k0 := k0) h k (by omega)
    have hg : (mkR k0 R k).getD k rw0 = R.getD k rw0 := by rw [mkR_getD (by omega) (by omega), if_neg (by omega)]
    have := ih.put (k := k) (by rw [mkR_length]; omega) (mkRw k0 R k).2.2 (by rw [hg]; exact marksNm_length _ _)
    rw [hg] at this
    exact this
theorem mkH_vk {H : Heap} {b0 u : Nat} {k0 : Int} {R : List Rw} (h : RowsAt H b0 u R) : ∀ k, k ≤ R.length → VK H (mkH H k0 R k)
  | 0, _ => VK.refl H
  | k + 1, hk => by
    have hx := h.rlt (getD_mem (d := rw0) (show k < R.length by omega))
    exact (mkH_vk h k (by omega)).trans (VK.set (by rw [mkH_length]; exact hx) (L2.refl fun x hx => WM_flat (List.all_eq_true.1 (nmE_flat _) x hx)))
end Go.Proofs.Ytncblopbcnkinaa
/- TurnValve on a shut valve, and the laws' vTable. -/
namespace Go.Proofs.Ytncblopbcnkinaa
open Go.Am
set_option linter.unusedVariables false
set_option linter.unusedSimpArgs false
set_option maxRecDepth 100000
set_option maxHeartbeats 4000000
theorem shutTo_at (l : List Vl) : ∀ (k : Nat), ∀ x ∈ shutTo l k, ∃ i, i < k ∧ x = (l.getD i vl0).1 ∧ (l.getD i vl0).2.2.2 = true
  | 0, x, h => absurd h (by simp [shutTo])
  | k + 1, x, h => by
    rw [shutTo] at h
    split at h
    · rename_i hs
      rcases List.mem_append.1 h with h | h
      · obtain ⟨i, hi, e⟩ := shutTo_at l k x h; exact ⟨i, by omega, e⟩
      · exact ⟨k, by omega, List.mem_singleton.1 h, hs⟩
    · obtain ⟨i, hi, e⟩ := shutTo_at l k x h; exact ⟨i, by omega, e⟩
theorem shut_ix {n : Int} {ps : List Pp} {l : List Vl} (hg : goodV n ps l = true) {id : Int} (h : hasI (shutL l) id = true) : ∃ q : Nat, ixOf (vlIs id) l = (q : Int) ∧ q < l.length ∧ (l.getD q vl0).1 = id ∧ (l.getD q vl0).2.2.2 = true := by
  obtain ⟨i, hi, e, hs⟩ := shutTo_at l l.length id (of_decide_eq_true h)
  rcases ix_cases vl0 (vlIs id) l with ⟨_, h2⟩ | ⟨q, h1, h2, h3, _⟩
  · have := of_decide_eq_false (h2 i hi)
    exact absurd e.symm this
  · have hq := of_decide_eq_true h3
    have : q = i := by
      rcases Nat.lt_trichotomy q i with h | h | h
      · have := vl_asc hg q (i - q - 1) (by omega)
        rw [show q + (i - q - 1) + 1 = i by omega] at this
        omega
      · exact h
      · have := vl_asc hg i (q - i - 1) (by omega)
        rw [show i + (q - i - 1) + 1 = q by omega] at this
        omega
    subst this
    exact ⟨q, h1, h2, hq, hs⟩
theorem iTurn_good (n : Int) (ps : List Pp) (cp : Nat) (l : List Vl) (hg : goodV n ps l = true) (c : Nat) (id : Int) (hid : hasI (shutL l) id = true) (H : Heap) (tp t : Nat) (hP : Sl ppE H tp ps) (hS : Sl vlE H t l) :
    AFunC Try.prog 34 [netV n tp ps.length cp, .slice (some ⟨t, 0, none⟩) l.length c, .int .i64 id, .bool false] H (.tuple #[.slice (some ⟨H.length, 0, none⟩) l.length 0, .bool true]) (H ++ [some ⟨(opL l [id]).flatMap vlE, true, 92, 4⟩]) := by
  refine AFunC.of_body Try.func34 (by kernel_rfl) rfl (by kernel_rfl) (by simp [Try.ntmps34]) ?_
  have htp := hP.lt
  have ht := hS.lt
  obtain ⟨hN, hl⟩ := goodV_net hg
  have hpl := hN.f_len
  obtain ⟨q, hqx, hql, hqi, hqs⟩ := shut_ix hg hid
  have et := turn_opL hg hql hqi
  have c3 := hS.cell (s := 4) (fun _ => rfl) vl0 q 3 hql (by omega)
  simp only [vlE] at c3
  rw [hqs] at c3
  have al := hS.all (s := 4) (fun _ => rfl)
  have hml : (l.flatMap vlE).length = l.length * 4 := vlE_length l
  have sc := set_cell (f := vlE) (s := 4) (l := l) (i := q) (fun _ => rfl) (id, (l.getD q vl0).2.1, (l.getD q vl0).2.2.1, false) vl0 hql (j := 3) (by omega) (v := .bool false) (by rw [← hqi]; rfl)
  rw [et] at sc
  have hqI : (q : Int) < (l.length : Int) := by omega
  have hk4 : q * 4 + 3 < l.length * 4 := by omega
  have hq0 : ¬ (q : Int) < 0 := by omega
  simp -dsimp -implicitDefEqProofs (disch := omega) [go_sem, -List.getD_eq_getElem?_getD, ite_yes, htp, ht]
  refine ACall.of (valveIndex_A l (by omega) c id _ t hS.app) ?_
  rw [hqx]
  simp -dsimp -implicitDefEqProofs (disch := omega) [go_sem, -List.getD_eq_getElem?_getD, ite_yes, htp, ht]
  refine ACall.of (iValidValves_A n ps (by omega) cp l (by omega) c _ tp t hP.app hS.app) ?_
  simp -dsimp -implicitDefEqProofs (disch := omega) [go_sem, -List.getD_eq_getElem?_getD, ite_yes, hg, htp, ht, hql, hqI, hq0, c3, al, hml, hk4]
  refine ⟨by omega, ?_⟩
  refine fin_list [some 2] rfl ?_ (by simp -dsimp -implicitDefEqProofs (disch := omega) [go_sem, -List.getD_eq_getElem?_getD, ite_yes])
  simp -dsimp -implicitDefEqProofs (disch := omega) [go_sem, -List.getD_eq_getElem?_getD, ite_yes]
  exact .inl ⟨sc.symm, by rw [sc]; exact vlE_flat _⟩
theorem vTable_A (R S : List Rw) (b0 b1 : Nat) (hW : R.map (·.2.2) = S.map (·.2.2)) (hl : R.length ≤ 1048577) (h8 : ∀ r ∈ R, r.2.2.length ≤ 8) (c d : Nat) (H : Heap) (t u : Nat) (hR : RowsAt H b0 t R) (hS : RowsAt H b1 u S) :
    AFunC Try.prog 26 [.slice (some ⟨t, 0, none⟩) R.length c, .slice (some ⟨u, 0, none⟩) S.length d] H (.bool true) H := by
  refine AFunC.of_body Try.func26 (by kernel_rfl) rfl (by kernel_rfl) (by simp [Try.ntmps26]) ?_
  have ht := hR.lt
  have hu := hS.lt
  have hlen : S.length = R.length := by
    have := congrArg List.length hW
    simpa using this.symm
  have cs := fun k hk => hR.sl.one (g := fun r : Rw => Value.slice (some ⟨r.1, 0, none⟩) r.2.2.length r.2.1) rw0 k hk
  have cu := fun k hk => hS.sl.one (g := fun r : Rw => Value.slice (some ⟨r.1, 0, none⟩) r.2.2.length r.2.1) rw0 k hk
  rw [hlen] at cu ⊢
  simp -dsimp -implicitDefEqProofs (disch := omega) [go_sem, -List.getD_eq_getElem?_getD, ite_yes]
  refine ALoop.intro (ι := Nat) (fun k => k ≤ R.length) (fun k => [(0, .slice (some ⟨t, 0, none⟩) R.length c), (1, .slice (some ⟨u, 0, none⟩) R.length d), (5, .int .i64 k)]) (fun _ => H) (fun k => R.length - k) 0 (by omega) ?_ ?_
  · exact weakS_same (by simp -dsimp -implicitDefEqProofs (disch := omega) [go_sem, -List.getD_eq_getElem?_getD, ite_yes, ht, hu])
  · intro k hk
    by_cases hlt : k < R.length
    · have hlti : (k : Int) < (R.length : Int) := by omega
      have c1 := cs k hlt
      have c2 := cu k hlt
      have s1 := hR.at (k := k) hlt
      have s2 := hS.at (k := k) (by omega)
      have m8 := h8 _ (getD_mem (d := rw0) hlt)
      have e : (S.getD k rw0).2.2 = (R.getD k rw0).2.2 := by
        have e1 : (R.map (·.2.2)).getD k [] = (S.map (·.2.2)).getD k [] := by rw [hW]
        simp only [List.getD_eq_getElem?_getD, List.getElem?_map, List.getElem?_eq_getElem hlt, List.getElem?_eq_getElem (show k < S.length by omega), Option.map_some, Option.getD_some] at e1 ⊢
        exact e1.symm
      rw [e] at c2 s2
      generalize S.getD k rw0 = y at *
      generalize R.getD k rw0 = x at *
      have hx := s1.lt
      have hy := s2.lt
      simp -dsimp -implicitDefEqProofs (disch := omega) [go_sem, -List.getD_eq_getElem?_getD, ite_yes, hlt, hlti]
      refine ADraw.quiet (by kernel_rfl) (by kernel_rfl) (by kernel_rfl) ?_
      simp -dsimp -implicitDefEqProofs (disch := omega) [go_sem, -List.getD_eq_getElem?_getD, ite_yes, hlt, hlti, c1, c2, hx, hy]
      refine ACallQ.of (vInts_same x.2.2 (by omega) _ _ _ _ _ s1.ro s2.ro) rfl ?_
      simp -dsimp -implicitDefEqProofs (disch := omega) [go_sem, -List.getD_eq_getElem?_getD, ite_yes, hlt, hlti]
      exact LoopEnd.of (k + 1) (by omega) (by omega) (weakS_same (by simp -dsimp -implicitDefEqProofs (disch := omega) [go_sem, -List.getD_eq_getElem?_getD, ite_yes, ht, hu]))
    · have hlti : ¬ (k : Int) < (R.length : Int) := by omega
      simp -dsimp -implicitDefEqProofs (disch := omega) [go_sem, -List.getD_eq_getElem?_getD, ite_yes, hlt, hlti]
      exact fin_flat0 rfl rfl
theorem vTable_nil (d u : Nat) (H : Heap) : AFunC Try.prog 26 [.slice none 0 0, .slice (some ⟨u, 0, none⟩) 0 d] H (.bool true) H := by
  refine AFunC.of_body Try.func26 (by kernel_rfl) rfl (by kernel_rfl) (by simp [Try.ntmps26]) ?_
  simp -dsimp -implicitDefEqProofs (disch := omega) [go_sem, -List.getD_eq_getElem?_getD, ite_yes]
  refine ALoop.intro (ι := Unit) (fun _ => True) (fun _ => [(0, .slice none 0 0), (5, .int .i64 0)]) (fun _ => H) (fun _ => 0) () trivial ?_ ?_
  · exact weakS_same (by simp -dsimp -implicitDefEqProofs (disch := omega) [go_sem, -List.getD_eq_getElem?_getD, ite_yes])
  · intro _ _
    simp -dsimp -implicitDefEqProofs (disch := omega) [go_sem, -List.getD_eq_getElem?_getD, ite_yes]
    exact fin_flat0 rfl rfl
/-- the rows' lengths, one after the other -/
theorem nwL_getD (n : Int) (ps : List Pp) (l : List Vl) (src : Int) (a : List Int) : ∀ {k i : Nat}, i < k → (nwL n ps l src a k).getD i [] = nwF n ps l src a i
  | 0, i, h => absurd h (Nat.not_lt_zero _)
  | k + 1, i, h => by
    have hl := nwL_length n ps l src a k
    rw [nwL, List.getD_eq_getElem?_getD]
    rcases Nat.lt_or_ge i k with hi | hi
    · rw [List.getElem?_append_left (by omega), ← List.getD_eq_getElem?_getD, nwL_getD n ps l src a hi]
    · obtain rfl : i = k := by omega
      rw [List.getElem?_append_right (by omega), hl, Nat.sub_self]
      rfl
theorem rows_at {n : Int} {ps : List Pp} {l : List Vl} {src : Int} {a : List Int} {R : List Rw} {k : Nat} (e : R.map (·.2.2) = nwL n ps l src a k) {i : Nat} (hi : i < k) : (R.getD i rw0).2.2 = nwF n ps l src a i := by
  have hl := congrArg List.length e
  rw [List.length_map, nwL_length] at hl
  have h1 : (R.map (·.2.2)).getD i [] = nwF n ps l src a i := by rw [e, nwL_getD n ps l src a hi]
  rw [← h1]
  simp [List.getD_eq_getElem?_getD, List.getElem?_eq_getElem (show i < R.length by omega)]
theorem preN_nw {n : Int} {ps : List Pp} {l : List Vl} {src : Int} {a : List Int} {R : List Rw} {m : Nat} (e : R.map (·.2.2) = nwL n ps l src a m) : ∀ k, k ≤ m → preN R k = nwSum n ps l src a k
  | 0, _ => rfl
  | k + 1, hk => by rw [preN, nwSum, preN_nw e k (by omega), rows_at e (by omega)]
end Go.Proofs.Ytncblopbcnkinaa
/- FnWetting: the law. -/
namespace Go.Am
set_option linter.unusedVariables false
theorem weakS_kq {H G : Heap} {fr fr' : Fr} (h : ∀ t, t < H.length → G.get t = H.get t) (hf : FrW (sg H.length []) H.length fr' fr) : WeakS H fr' H fr G := by
  refine ⟨sg H.length [], ⟨Nat.le_refl _, fun t ht => by simp only [sg, ht, if_true], fun t b' hb => ?_, fun t t' s b b' hne h1 h2 => ?_⟩, hf⟩
  · have ht := Heap.get_lt hb
    exact .inl ⟨ht, (h t ht).trans hb, hb⟩
  · have e : ∀ t s, sg H.length [] t = some s → s = t := by
      intro t s h
      unfold sg at h
      split at h
      · injection h with h; exact h.symm
      · simp at h
    exact absurd ((e _ _ h1).symm.trans (e _ _ h2)) hne
theorem Sl.of_get {α : Type} {f : α → List Value} {H : Heap} {t : Nat} {l : List α} {o : Bool} {e z : Nat} (h : H.get t = some ⟨l.flatMap f, o, e, z⟩) : Sl f H t l := ⟨_, [], h, by simp⟩
theorem VK.flat1 {H K : Heap} {xs : List Value} {o : Bool} {e z : Nat} (h : VK H K) (hx : xs.all flat = true) : VK H (K ++ [some ⟨xs, o, e, z⟩]) :=
  h.trans (VK.snoc (L2.refl fun x hx' => WM_flat (List.all_eq_true.1 hx x hx')))
end Go.Am
namespace Go.Proofs.Ytncblopbcnkinaa
open Go.Am Go.Lib
set_option linter.unusedVariables false
set_option linter.unusedSimpArgs false
set_option maxRecDepth 100000
set_option maxHeartbeats 8000000
theorem newly_small {n : Int} {ps : List Pp} {l : List Vl} {src : Int} {a : List Int} (hg : isOrd n ps l src a = true) {R : List Rw} (e : R.map (·.2.2) = nwL n ps l src a a.length) : R.length ≤ 6 ∧ R.length = a.length ∧ ∀ r ∈ R, r.2.2.length ≤ 8 := by
  have ho' := hg
  unfold isOrd at ho'
  rw [Bool.and_eq_true] at ho'
  obtain ⟨hq, hob⟩ := ho'
  obtain ⟨hgv, hN, hl10, hsrc, hs6⟩ := askR_at hq
  have hal := (ordB_perm hob).length_eq
  have hl := congrArg List.length e
  rw [List.length_map, nwL_length] at hl
  refine ⟨by omega, hl, fun r hr => ?_⟩
  have : r.2.2 ∈ nwL n ps l src a a.length := by rw [← e]; exact List.mem_map.2 ⟨r, hr, rfl⟩
  exact nwL_small hN.f_n this
/-- three flat blocks, and a box that holds a network of the first one -/
theorem vk_box {H : Heap} {n : Int} {len c e1 z1 e2 z2 e3 z3 e4 z4 : Nat} {x y z : List Value} {o1 o2 o3 o4 : Bool} (hx : x.all flat = true) (hy : y.all flat = true) (hz : z.all flat = true) :
    VK H (H ++ [some ⟨x, o1, e1, z1⟩, some ⟨y, o2, e2, z2⟩, some ⟨z, o3, e3, z3⟩, some ⟨[.int .i64 n, .slice (some ⟨H.length, 0, none⟩) len c], o4, e4, z4⟩]) := by
  have h1 := VK.flat1 (o := o1) (e := e1) (z := z1) (VK.refl H) hx
  have h2 := VK.flat1 (o := o2) (e := e2) (z := z2) h1 hy
  have h3 := VK.flat1 (o := o3) (e := e3) (z := z3) h2 hz
  have h4 := h3.trans (VK.snoc (b := ⟨[.int .i64 n, .slice (some ⟨H.length, 0, none⟩) len c], o4, e4, z4⟩) (wm_net (h := H.length + 1) (by omega) _ _ (fun t ht => by simp [sg]; omega) (by simp)))
  simpa [List.append_assoc] using h4
theorem mem_getD {l : List Int} {x : Int} (h : x ∈ l) : ∃ i, i < l.length ∧ l.getD i 0 = x := by
  obtain ⟨i, hi, e⟩ := List.getElem_of_mem h
  exact ⟨i, hi, by rw [List.getD_eq_getElem?_getD, List.getElem?_eq_getElem hi]; exact e⟩
theorem no_getD {l : List Int} {x : Int} (h : x ∉ l) : ∀ k, k < l.length → l.getD k 0 ≠ x := fun k hk e => h (by
  rw [← e, List.getD_eq_getElem?_getD, List.getElem?_eq_getElem hk]
  exact List.getElem_mem _)
theorem lawWetting_A {H : Heap} {tc n : Nat} (h : Bytes H tc n) (cc : Nat) : AFunC Try.prog 4 [.slice (some ⟨tc, 0, none⟩) n cc] H (.bool true) H := by
  refine AFunC.of_awp Try.func4 (by kernel_rfl) rfl (by simp [Try.ntmps4]) ?_
  have ht := h.lt
  refine AWp.step 2 [(0, .slice (some ⟨tc, 0, none⟩) n cc)] H (by kernel_rfl) (by kernel_rfl) ?_ ?_
  · simp -dsimp -implicitDefEqProofs (disch := omega) [go_sem, -List.getD_eq_getElem?_getD, ite_yes]
    refine ACall.of (vBig_A _ _ _ _) ?_
    simp -dsimp -implicitDefEqProofs (disch := omega) [go_sem, -List.getD_eq_getElem?_getD, ite_yes]
    refine AIf.of (fun h' => ?_) (fun h' => ?_)
    · simp -dsimp -implicitDefEqProofs (disch := omega) [go_sem, -List.getD_eq_getElem?_getD, ite_yes]
      exact fin_flat0 rfl rfl
    · simp -dsimp -implicitDefEqProofs (disch := omega) [go_sem, -List.getD_eq_getElem?_getD, ite_yes]
      exact ⟨weakS_same (by simp -dsimp -implicitDefEqProofs (disch := omega) [go_sem, -List.getD_eq_getElem?_getD, ite_yes, ht])⟩
  simp only [AWp_drop, AWp_drop0]
  refine AWp.step 4 [(0, .slice (some ⟨tc, 0, none⟩) n cc)] H (by kernel_rfl) (by kernel_rfl) ?_ ?_
  · simp -dsimp -implicitDefEqProofs (disch := omega) [go_sem, -List.getD_eq_getElem?_getD, ite_yes]
    refine ACall.via (drawNewlyWet_R h cc) ?_
    rintro _ _ ⟨N, ps, l, src, a, rfl, hN, hp, hl, ha, rfl⟩
    cases hg : isOrd N ps l src a
    · simp -dsimp -implicitDefEqProofs (disch := omega) [go_sem, -List.getD_eq_getElem?_getD, ite_yes]
      refine ACall.of (iNewly_bad N ps (by omega) _ l (by omega) _ src a (by omega) hg _ _ _ _ _ (Sl.of rfl) (Sl.nth 1 rfl rfl) (Sl.nth 2 rfl rfl)) ?_
      simp -dsimp -implicitDefEqProofs (disch := omega) [go_sem, -List.getD_eq_getElem?_getD, ite_yes]
      refine ACall.of (sNewly_bad N ps (by omega) _ l (by omega) _ src a (by omega) hg _ _ _ _ _ (Sl.of rfl) (Sl.nth 1 rfl rfl) (Sl.nth 2 rfl rfl)) ?_
      simp -dsimp -implicitDefEqProofs (disch := omega) [go_sem, -List.getD_eq_getElem?_getD, ite_yes]
      refine ACall.of (vTable_nil _ _ _) ?_
      simp -dsimp -implicitDefEqProofs (disch := omega) [go_sem, -List.getD_eq_getElem?_getD, ite_yes]
      exact ⟨weakS_drop (by simp -dsimp -implicitDefEqProofs (disch := omega) [go_sem, -List.getD_eq_getElem?_getD, ite_yes, ht])⟩
    have ho' := hg
    unfold isOrd at ho'
    rw [Bool.and_eq_true] at ho'
    obtain ⟨hq, hob⟩ := ho'
    obtain ⟨hgv, hNt, hl10, hsrc, hs6⟩ := askR_at hq
    have hperm := ordB_perm hob
    simp -dsimp -implicitDefEqProofs (disch := omega) [go_sem, -List.getD_eq_getElem?_getD, ite_yes]
    refine ACall.via (iNewly_R N ps _ l _ src a hg _ _ _ _ _ (Sl.of rfl) (Sl.nth 1 rfl rfl) (Sl.nth 2 rfl rfl)) ?_
    rintro _ G1 ⟨W1, u1, rfl, e1, r1, vk1, kq1⟩
    have l1 : H.length + 4 ≤ G1.length := by simpa using kq1.1
    have cx1 := kq1.cells (t := H.length + 3) (o := 0) (n := 2) (xs := [.int .i64 N, .slice (some ⟨H.length, 0, none⟩) ps.length ps.length]) (by simp) (by simp -dsimp -implicitDefEqProofs (disch := omega) [go_sem, -List.getD_eq_getElem?_getD, ite_yes])
    have gp1 := kq1.get ((Heap.get_len_add H _ 0).trans rfl)
    have gv1 := kq1.get ((Heap.get_len_add H _ 1).trans rfl)
    have go1 := kq1.get ((Heap.get_len_add H _ 2).trans rfl)
    rw [Nat.add_zero] at gp1
    have q1 : KQ H G1 := KQ.app.trans kq1
    have v1 : VK H G1 := (vk_box (ppE_flat _) (vlE_flat _) (nmE_flat _)).trans vk1
    have r1 := r1.le (b1 := H.length) (by simp)
    clear kq1 vk1
    have u1l := r1.lt
    have k0 : H.length < G1.length := by omega
    have k1 : H.length + 1 < G1.length := by omega
    have k2 : H.length + 2 < G1.length := by omega
    have k3 : H.length + 3 < G1.length := by omega
    have t1 : tc < G1.length := by omega
    simp -dsimp -implicitDefEqProofs (disch := omega) [go_sem, -List.getD_eq_getElem?_getD, ite_yes, u1l, k0, k1, k2, k3, t1, cx1]
    refine ACall.via (sNewly_R N ps _ l _ src a hg _ _ _ _ _ (Sl.of_get gp1) (Sl.of_get gv1) (Sl.of_get go1)) ?_
    rintro _ G2 ⟨W2, u2, rfl, e2, r2, vk2, kq2⟩
    have r1 := r1.kq kq2
    have gp2 := kq2.get gp1
    have gv2 := kq2.get gv1
    have cx2 := kq2.cells k3 cx1
    have q2 := q1.trans kq2
    have v2 := v1.trans vk2
    have l2 : H.length + 4 ≤ G2.length := by have := kq2.1; omega
    clear kq2 vk2 gp1 gv1 go1 cx1 q1 v1 u1l k0 k1 k2 k3 t1 l1
    have u1l := r1.lt
    have u2l := r2.lt
    have k0 : H.length < G2.length := by omega
    have k1 : H.length + 1 < G2.length := by omega
    have k2 : H.length + 2 < G2.length := by omega
    have k3 : H.length + 3 < G2.length := by omega
    have t1 : tc < G2.length := by omega
    obtain ⟨n1, n1', m1⟩ := newly_small hg e1
    simp -dsimp -implicitDefEqProofs (disch := omega) [go_sem, -List.getD_eq_getElem?_getD, ite_yes, u1l, u2l, k0, k1, k2, k3, t1, cx2]
    refine ACall.of (vTable_A W1 W2 _ _ (e1.trans e2.symm) (by omega) m1 _ _ _ _ _ r1 r2) ?_
    simp -dsimp -implicitDefEqProofs (disch := omega) [go_sem, -List.getD_eq_getElem?_getD, ite_yes, u1l, u2l, k0, k1, k2, k3, t1, cx2]
    refine ACall.of (dryO_nil N ps l src ▸ iDryNodes_A N ps _ l hgv _ src hsrc _ _ _ (Sl.of_get gp2) (Sl.of_get gv2)) ?_
    simp -dsimp -implicitDefEqProofs (disch := omega) [go_sem, -List.getD_eq_getElem?_getD, ite_yes, u1l, u2l, k0, k1, k2, k3, t1, cx2]
    refine ACall.of (iStill_good N ps _ l _ src hq _ _ _ (Sl.of_get gp2).app (Sl.of_get gv2).app) ?_
    simp -dsimp -implicitDefEqProofs (disch := omega) [go_sem, -List.getD_eq_getElem?_getD, ite_yes, u1l, u2l, k0, k1, k2, k3, t1, cx2]
    have eS : dryO N ps l src (shutL l) = dryO N ps l src a := (dryO_perm hperm).symm
    have hin := fun k (hk : k < a.length) x (hx : x ∈ nwF N ps l src a k) => nw_in hNt (l := l) (src := src) hk hx
    have hcnt := nw_count hNt l src a a.length (Nat.le_refl _)
    rw [List.take_length] at hcnt
    have dl := dryO_length N ps l src []
    have sl := dryO_length N ps l src a
    have hn8 := hNt.f_n
    rw [eS]
    obtain ⟨c, hc0, hcs, hce, hcb⟩ : ∃ c : Nat → Nat, c 0 = (dryO N ps l src a).length ∧ (∀ i, i < W1.length → c (i + 1) = c i + (W1.getD i rw0).2.2.length) ∧ c W1.length = (dryO N ps l src []).length ∧ ∀ i, i ≤ W1.length → c i ≤ 100 := by
      refine ⟨fun i => (dryO N ps l src a).length + preN W1 i, by simp [preN], fun i _ => by simp only [preN]; omega, ?_, fun i hi => ?_⟩
      · have := preN_nw e1 a.length (Nat.le_refl _)
        show (dryO N ps l src a).length + preN W1 W1.length = _
        rw [n1', this]
        omega
      · have := preN_le m1 i hi
        simp only
        omega
    have hrow := fun i (hi : i < W1.length) => rows_at e1 (i := i) (by omega)
    generalize dryO N ps l src a = S at *
    generalize dryO N ps l src [] = D at *
    have rG := r1.kq (KQ.app (L := [some ⟨D.flatMap nmE, true, 3, 1⟩, some ⟨S.flatMap nmE, true, 3, 1⟩]))
    have sD : Sl nmE (G2 ++ [some ⟨D.flatMap nmE, true, 3, 1⟩, some ⟨S.flatMap nmE, true, 3, 1⟩]) G2.length D := Sl.of rfl
    have sS : Sl nmE (G2 ++ [some ⟨D.flatMap nmE, true, 3, 1⟩, some ⟨S.flatMap nmE, true, 3, 1⟩]) (G2.length + 1) S := Sl.nth 1 rfl rfl
    have vG : VK H (G2 ++ [some ⟨D.flatMap nmE, true, 3, 1⟩, some ⟨S.flatMap nmE, true, 3, 1⟩]) := by
      have := (VK.flat1 (o := true) (e := 3) (z := 1) v2 (nmE_flat D)).flat1 (o := true) (e := 3) (z := 1) (nmE_flat S)
      rwa [List.append_assoc] at this
    have qG : KQ H (G2 ++ [some ⟨D.flatMap nmE, true, 3, 1⟩, some ⟨S.flatMap nmE, true, 3, 1⟩]) := q2.trans KQ.app
    generalize G2 ++ [some ⟨D.flatMap nmE, true, 3, 1⟩, some ⟨S.flatMap nmE, true, 3, 1⟩] = G at *
    generalize G2.length = tD at *
    have gD := sD.lt
    have gS := sS.lt
    have gu := rG.lt
    have gt : tc < G.length := by omega
    have g2 : H.length + 2 < G.length := by omega
    clear r1 r2 gp2 gv2 cx2 q2 v2 l2 u1l u2l k0 k1 k2 k3 t1
    refine ALoop.intro (ι := Nat) (fun i => i ≤ W1.length) (fun i => [(0, .slice (some ⟨tc, 0, none⟩) n cc), (6, .slice (some ⟨H.length + 2, 0, none⟩) a.length a.length), (7, .slice (some ⟨u1, 0, none⟩) W1.length 0), (11, .slice (some ⟨tD, 0, none⟩) D.length 0), (12, .bool true), (13, .slice (some ⟨tD + 1, 0, none⟩) S.length 0), (14, .bool true), (15, .int .i64 (c i)), (16, .int .i64 i)])
      (fun _ => G) (fun i => W1.length - i) 0 (by omega) ?_ ?_
    · exact weakS_vk vG (by simp -dsimp -implicitDefEqProofs (disch := omega) [go_sem, -List.getD_eq_getElem?_getD, ite_yes, gD, gS, gu, gt, g2, hc0])
    intro i hi
    by_cases hlt : i < W1.length
    rotate_left
    · obtain rfl : i = W1.length := by omega
      have hlti : ¬ (W1.length : Int) < (W1.length : Int) := by omega
      rw [hce]
      simp -dsimp -implicitDefEqProofs (disch := omega) [go_sem, -List.getD_eq_getElem?_getD, ite_yes, hlti, n1']
      exact ⟨weakS_kq (fun t ht => qG.2 t ht) (by simp -dsimp -implicitDefEqProofs (disch := omega) [go_sem, -List.getD_eq_getElem?_getD, ite_yes, ht])⟩
    have hlti : (i : Int) < (W1.length : Int) := by omega
    have c1 := rG.sl.one (g := fun r : Rw => Value.slice (some ⟨r.1, 0, none⟩) r.2.2.length r.2.1) rw0 i hlt
    have s1 := rG.at hlt
    have er := hrow i hlt
    have m8 := m1 _ (getD_mem (d := rw0) hlt)
    have ec := hcs i hlt
    have cb := hcb i hi
    have hin := hin i (by omega)
    rw [← er] at hin
    generalize W1.getD i rw0 = x at *
    have hx := s1.lt
    have cx := fun k hk => s1.one (g := fun n => Value.int .i64 n) 0 k hk
    simp -dsimp -implicitDefEqProofs (disch := omega) [go_sem, -List.getD_eq_getElem?_getD, ite_yes, hlt, hlti, c1, hx, gu]
    refine ALoop.intro (ι := Nat) (fun j => j ≤ x.2.2.length) (fun j => [(0, .slice (some ⟨tc, 0, none⟩) n cc), (6, .slice (some ⟨H.length + 2, 0, none⟩) a.length a.length), (7, .slice (some ⟨u1, 0, none⟩) W1.length 0), (11, .slice (some ⟨tD, 0, none⟩) D.length 0), (12, .bool true), (13, .slice (some ⟨tD + 1, 0, none⟩) S.length 0), (14, .bool true), (15, .int .i64 (c (i + 1))), (16, .int .i64 i), (17, .int .i64 j)])
      (fun _ => G) (fun j => x.2.2.length - j) 0 (by omega) ?_ ?_
    · exact weakS_vk vG (by simp -dsimp -implicitDefEqProofs (disch := omega) [go_sem, -List.getD_eq_getElem?_getD, ite_yes, gD, gS, gu, gt, g2, ec])
    intro j hj
    by_cases hjl : j < x.2.2.length
    · have hjli : (j : Int) < (x.2.2.length : Int) := by omega
      have cj := cx j hjl
      obtain ⟨y1, y2⟩ := hin (x.2.2.getD j 0) (getD_mem hjl)
      generalize x.2.2.getD j 0 = y at *
      obtain ⟨q, hq1, hq2⟩ := mem_getD y1
      simp -dsimp -implicitDefEqProofs (disch := omega) [go_sem, -List.getD_eq_getElem?_getD, ite_yes, hlt, hlti, hjl, hjli, c1, cj, hx, gu, gD, gS]
      refine ACall.of (vHas_yes D y q hq1 hq2 (by omega) _ _ _ sD) ?_
      simp -dsimp -implicitDefEqProofs (disch := omega) [go_sem, -List.getD_eq_getElem?_getD, ite_yes, hlt, hlti, hjl, hjli, c1, cj, hx, gu, gD, gS]
      refine ACall.of (vHas_no S y (no_getD y2) (by omega) _ _ _ sS) ?_
      simp -dsimp -implicitDefEqProofs (disch := omega) [go_sem, -List.getD_eq_getElem?_getD, ite_yes, hlt, hlti, hjl, hjli, c1, cj, hx, gu, gD, gS]
      exact LoopEnd.of (j + 1) (by omega) (by omega) (weakS_vk vG (by simp -dsimp -implicitDefEqProofs (disch := omega) [go_sem, -List.getD_eq_getElem?_getD, ite_yes, gD, gS, gu, gt, g2, ec]))
    · obtain rfl : j = x.2.2.length := by omega
      have hjli : ¬ (x.2.2.length : Int) < (x.2.2.length : Int) := by omega
      simp -dsimp -implicitDefEqProofs (disch := omega) [go_sem, -List.getD_eq_getElem?_getD, ite_yes, hlt, hlti, hjli, c1, hx, gu]
      exact LoopEnd.of (i + 1) (by omega) (by omega) (weakS_vk vG (by simp -dsimp -implicitDefEqProofs (disch := omega) [go_sem, -List.getD_eq_getElem?_getD, ite_yes, gD, gS, gu, gt, g2, ec]))
  simp only [AWp_drop, AWp_drop0]
  refine AWp.step 4 [(0, .slice (some ⟨tc, 0, none⟩) n cc)] H (by kernel_rfl) (by kernel_rfl) ?_ ?_
  · simp -dsimp -implicitDefEqProofs (disch := omega) [go_sem, -List.getD_eq_getElem?_getD, ite_yes]
    refine ACall.via (drawUseful_R h cc) ?_
    rintro _ _ ⟨N, ps, l, src, rfl, hN, hp, hl, rfl⟩
    cases hq : askR N ps l src
    · simp -dsimp -implicitDefEqProofs (disch := omega) [go_sem, -List.getD_eq_getElem?_getD, ite_yes]
      refine ACall.of (iUseful_bad N ps (by omega) _ l (by omega) _ src hq _ _ _ (Sl.of rfl) (Sl.nth 1 rfl rfl)) ?_
      simp -dsimp -implicitDefEqProofs (disch := omega) [go_sem, -List.getD_eq_getElem?_getD, ite_yes]
      refine ACall.of (sUseful_bad N ps (by omega) _ l (by omega) _ src hq _ _ _ (Sl.of rfl) (Sl.nth 1 rfl rfl)) ?_
      simp -dsimp -implicitDefEqProofs (disch := omega) [go_sem, -List.getD_eq_getElem?_getD, ite_yes]
      refine ACall.of (vInts_nil _ _ _) ?_
      simp -dsimp -implicitDefEqProofs (disch := omega) [go_sem, -List.getD_eq_getElem?_getD, ite_yes]
      refine ALoop.intro (ι := Unit) (fun _ => True) (fun _ => [(0, .slice (some ⟨tc, 0, none⟩) n cc), (21, .slice none 0 0), (25, .int .i64 0)]) (fun _ => H) (fun _ => 0) () trivial ?_ ?_
      · exact weakS_drop (by simp -dsimp -implicitDefEqProofs (disch := omega) [go_sem, -List.getD_eq_getElem?_getD, ite_yes, ht])
      · intro _ _
        simp -dsimp -implicitDefEqProofs (disch := omega) [go_sem, -List.getD_eq_getElem?_getD, ite_yes]
        exact ⟨weakS_same (by simp -dsimp -implicitDefEqProofs (disch := omega) [go_sem, -List.getD_eq_getElem?_getD, ite_yes, ht])⟩
    obtain ⟨hgv, hNt, hl10, hsrc, hs6⟩ := askR_at hq
    have A1 := fun c H tp t => iUseful_good N ps c l l.length src hq H tp t
    have A2 := fun c H tp t => sUseful_good N ps c l l.length src hq H tp t
    have hU := fun x hx => useTo_mem (n := N) (ps := ps) (l := l) (src := src) (x := x) (Nat.le_refl _) hx
    have hUs := useL_small (n := N) (ps := ps) l src hs6
    rw [show useTo N ps l src (shutL l).length = useL N ps l src from rfl] at hU
    generalize useL N ps l src = U at *
    have uf := nmE_length U
    simp -dsimp -implicitDefEqProofs (disch := omega) [go_sem, -List.getD_eq_getElem?_getD, ite_yes]
    refine ACall.of (A1 _ _ _ _ (Sl.of rfl) (Sl.nth 1 rfl rfl)) ?_
    simp -dsimp -implicitDefEqProofs (disch := omega) [go_sem, -List.getD_eq_getElem?_getD, ite_yes]
    refine ACall.of (A2 _ _ _ _ (Sl.of rfl) (Sl.nth 1 rfl rfl)) ?_
    simp -dsimp -implicitDefEqProofs (disch := omega) [go_sem, -List.getD_eq_getElem?_getD, ite_yes]
    refine ACall.of (vInts_same U hUs _ _ _ _ _ (Sl.nth 3 rfl rfl) (Sl.nth 4 rfl rfl)) ?_
    simp -dsimp -implicitDefEqProofs (disch := omega) [go_sem, -List.getD_eq_getElem?_getD, ite_yes]
    refine ALoop.intro (ι := Nat) (fun k => k ≤ U.length) (fun k => [(0, .slice (some ⟨tc, 0, none⟩) n cc), (18, .pointer (some ⟨H.length + 2, 0, none⟩)), (19, .slice (some ⟨H.length + 1, 0, none⟩) l.length l.length), (20, .int .i64 src), (21, .slice (some ⟨H.length + 3, 0, none⟩) U.length 0), (25, .int .i64 k)])
      (fun _ => H ++ [some ⟨ps.flatMap ppE, true, 105, 4⟩, some ⟨l.flatMap vlE, true, 92, 4⟩, some ⟨[.int .i64 N, .slice (some ⟨H.length, 0, none⟩) ps.length ps.length], true, 46, 1⟩, some ⟨U.flatMap nmE, true, 3, 1⟩]) (fun k => U.length - k) 0 (by omega) ?_ ?_
    · refine weakS_mk [some 0, some 1, some 2, some 3] rfl ?_ (by simp -dsimp -implicitDefEqProofs (disch := omega) [go_sem, -List.getD_eq_getElem?_getD, ite_yes, ht])
      simp -dsimp -implicitDefEqProofs (disch := omega) [go_sem, -List.getD_eq_getElem?_getD, ite_yes]
      exact ⟨.inl ⟨rfl, ppE_flat _⟩, .inl ⟨rfl, vlE_flat _⟩, wl_cell (u := 0) (i := 0) (by omega) (by simp [sg]), .inl ⟨rfl, nmE_flat _⟩⟩
    intro k hk
    by_cases hlt : k < U.length
    rotate_left
    · obtain rfl : k = U.length := by omega
      have hlti : ¬ (U.length : Int) < (U.length : Int) := by omega
      simp -dsimp -implicitDefEqProofs (disch := omega) [go_sem, -List.getD_eq_getElem?_getD, ite_yes, hlti]
      exact ⟨weakS_drop (by simp -dsimp -implicitDefEqProofs (disch := omega) [go_sem, -List.getD_eq_getElem?_getD, ite_yes, ht])⟩
    have hlti : (k : Int) < (U.length : Int) := by omega
    have c1 := nm_cell1 U hlt
    obtain ⟨x1, x2⟩ := hU (U.getD k 0) (getD_mem hlt)
    generalize U.getD k 0 = x at *
    simp -dsimp -implicitDefEqProofs (disch := omega) [go_sem, -List.getD_eq_getElem?_getD, ite_yes, hlt, hlti, ht]
    refine ADraw.mid [(0, .slice (some ⟨tc, 0, none⟩) n cc), (18, .pointer (some ⟨H.length + 2, 0, none⟩)), (19, .slice (some ⟨H.length + 1, 0, none⟩) l.length l.length), (20, .int .i64 src), (21, .slice (some ⟨H.length + 3, 0, none⟩) U.length 0), (25, .int .i64 k), (26, .slice (some ⟨H.length + 4, 0, none⟩) l.length 0), (27, .bool true)]
      (H ++ [some ⟨ps.flatMap ppE, true, 105, 4⟩, some ⟨l.flatMap vlE, true, 92, 4⟩, some ⟨[.int .i64 N, .slice (some ⟨H.length, 0, none⟩) ps.length ps.length], true, 46, 1⟩, some ⟨U.flatMap nmE, true, 3, 1⟩, some ⟨(opL l [x]).flatMap vlE, true, 92, 4⟩]) ?_ ?_
    · skip
      refine ADraw.any (H ++ [some ⟨ps.flatMap ppE, true, 105, 4⟩, some ⟨l.flatMap vlE, true, 92, 4⟩, some ⟨[.int .i64 N, .slice (some ⟨H.length, 0, none⟩) ps.length ps.length], true, 46, 1⟩, some ⟨U.flatMap nmE, true, 3, 1⟩]) (by kernel_rfl) (by first | exact SubH.refl | exact SubH.app | exact SubH.both (by simp [subL])) ?_
      refine AAny.takes (fuel := 7) (by kernel_rfl) (by kernel_rfl) [1, 2, 3, 4, 5] (by kernel_rfl) (by kernel_rfl) ?_
      simp -dsimp -implicitDefEqProofs (disch := omega) [go_sem, -List.getD_eq_getElem?_getD, ite_yes, ht, hlt, hlti, c1, uf]
      refine AAny.one 6 0 (by kernel_rfl) (by kernel_rfl) (by kernel_rfl) ?_
      simp -dsimp -implicitDefEqProofs (disch := omega) [go_sem, -List.getD_eq_getElem?_getD, ite_yes, ht, hlt, hlti, c1, uf]
      first | refine AAt.of (by first | exact SubH.refl | exact SubH.app | exact SubH.both (by simp [subL])) ?_ | (refine ⟨?_, AAt.of (by first | exact SubH.refl | exact SubH.app | exact SubH.both (by simp [subL])) ?_⟩; · omega)
      refine AAny.one 5 6 (by kernel_rfl) (by kernel_rfl) (by kernel_rfl) ?_
      simp -dsimp -implicitDefEqProofs (disch := omega) [go_sem, -List.getD_eq_getElem?_getD, ite_yes, ht, hlt, hlti, c1, uf]
      refine ACall.of (iTurn_good N ps _ l hgv _ x x1 _ _ _ (Sl.of rfl) (Sl.nth 1 rfl rfl)) ?_
      simp -dsimp -implicitDefEqProofs (disch := omega) [go_sem, -List.getD_eq_getElem?_getD, ite_yes, ht, hlt, hlti, c1, uf]
      first | refine AAt.of (by first | exact SubH.refl | exact SubH.app | exact SubH.both (by simp [subL])) ?_ | (refine ⟨?_, AAt.of (by first | exact SubH.refl | exact SubH.app | exact SubH.both (by simp [subL])) ?_⟩; · omega)
      refine AAny.takes (fuel := 0) (by kernel_rfl) (by kernel_rfl) [7, 8, 9, 10, 11] (by kernel_rfl) (by kernel_rfl) ?_
      simp -dsimp -implicitDefEqProofs (disch := omega) [go_sem, -List.getD_eq_getElem?_getD, ite_yes, ht, hlt, hlti, c1, uf]
      refine AAny.done (by kernel_rfl) ?_
      simp -dsimp -implicitDefEqProofs (disch := omega) [go_sem, -List.getD_eq_getElem?_getD, ite_yes, ht, hlt, hlti, c1, uf]
      exact ⟨weakS_mk [some 0, some 1, some 2, some 3, some 4] rfl (by simp -dsimp -implicitDefEqProofs (disch := omega) [go_sem, -List.getD_eq_getElem?_getD, ite_yes]; exact ⟨.inl ⟨rfl, ppE_flat _⟩, .inl ⟨rfl, vlE_flat _⟩, wl_cell (u := 0) (i := 0) (by omega) (by simp [sg]), .inl ⟨rfl, nmE_flat _⟩, .inl ⟨rfl, vlE_flat _⟩⟩) (by simp -dsimp -implicitDefEqProofs (disch := omega) [go_sem, -List.getD_eq_getElem?_getD, ite_yes, ht])⟩
    have x2' : ¬ ((dryO N ps l src []).length : Int) ≤ ((dryO N ps l src [x]).length : Int) := by omega
    simp -dsimp -implicitDefEqProofs (disch := omega) [go_sem, -List.getD_eq_getElem?_getD, ite_yes, hlt, hlti, ht]
    refine ACall.of (dryO_nil N ps l src ▸ iDryNodes_A N ps _ l hgv _ src hsrc _ _ _ (Sl.of rfl) (Sl.nth 1 rfl rfl)) ?_
    simp -dsimp -implicitDefEqProofs (disch := omega) [go_sem, -List.getD_eq_getElem?_getD, ite_yes, hlt, hlti, ht]
    refine ACall.of (iDryO_A N ps _ l hgv _ src hsrc [x] _ _ _ (Sl.of rfl) (Sl.nth 4 rfl rfl)) ?_
    simp -dsimp -implicitDefEqProofs (disch := omega) [go_sem, -List.getD_eq_getElem?_getD, ite_yes, hlt, hlti, ht, x2']
    refine LoopEnd.of (k + 1) (by omega) (by omega) (weakS_mk [some 0, some 1, some 2, some 3] rfl ?_ (by simp -dsimp -implicitDefEqProofs (disch := omega) [go_sem, -List.getD_eq_getElem?_getD, ite_yes, ht]))
    simp -dsimp -implicitDefEqProofs (disch := omega) [go_sem, -List.getD_eq_getElem?_getD, ite_yes]
    exact ⟨.inl ⟨rfl, ppE_flat _⟩, .inl ⟨rfl, vlE_flat _⟩, wl_cell (u := 0) (i := 0) (by omega) (by simp [sg]), .inl ⟨rfl, nmE_flat _⟩⟩
  simp only [AWp_drop, AWp_drop0]
  refine AWp.last (by kernel_rfl) ?_
  simp -dsimp -implicitDefEqProofs (disch := omega) [go_sem, -List.getD_eq_getElem?_getD, ite_yes]
  refine ACall.via (drawStillDry_R h cc) ?_
  rintro _ _ ⟨N, ps, l, src, rfl, hN, hp, hl, rfl⟩
  cases hq : askR N ps l src
  · simp -dsimp -implicitDefEqProofs (disch := omega) [go_sem, -List.getD_eq_getElem?_getD, ite_yes]
    refine ACall.of (iStill_bad N ps (by omega) _ l (by omega) _ src hq _ _ _ (Sl.of rfl) (Sl.nth 1 rfl rfl)) ?_
    simp -dsimp -implicitDefEqProofs (disch := omega) [go_sem, -List.getD_eq_getElem?_getD, ite_yes]
    refine ACall.of (sStill_bad N ps (by omega) _ l (by omega) _ src hq _ _ _ (Sl.of rfl) (Sl.nth 1 rfl rfl)) ?_
    simp -dsimp -implicitDefEqProofs (disch := omega) [go_sem, -List.getD_eq_getElem?_getD, ite_yes]
    refine ACall.of (vInts_nil _ _ _) ?_
    simp -dsimp -implicitDefEqProofs (disch := omega) [go_sem, -List.getD_eq_getElem?_getD, ite_yes]
    exact fin_flat rfl rfl
  have hNt := (askR_at hq).2.1
  have hu := dryO_small hNt l src (shutL l)
  have A1 := fun c H tp t => iStill_good N ps c l l.length src hq H tp t
  have A2 := fun c H tp t => sStill_good N ps c l l.length src hq H tp t
  generalize dryO N ps l src (shutL l) = D at *
  simp -dsimp -implicitDefEqProofs (disch := omega) [go_sem, -List.getD_eq_getElem?_getD, ite_yes]
  refine ACall.of (A1 _ _ _ _ (Sl.of rfl) (Sl.nth 1 rfl rfl)) ?_
  simp -dsimp -implicitDefEqProofs (disch := omega) [go_sem, -List.getD_eq_getElem?_getD, ite_yes]
  refine ACall.of (A2 _ _ _ _ (Sl.of rfl) (Sl.nth 1 rfl rfl)) ?_
  simp -dsimp -implicitDefEqProofs (disch := omega) [go_sem, -List.getD_eq_getElem?_getD, ite_yes]
  refine ACall.of (vInts_same D hu _ _ _ _ _ (Sl.nth 3 rfl rfl) (Sl.nth 4 rfl rfl)) ?_
  simp -dsimp -implicitDefEqProofs (disch := omega) [go_sem, -List.getD_eq_getElem?_getD, ite_yes]
  exact fin_flat rfl rfl
end Go.Proofs.Ytncblopbcnkinaa
