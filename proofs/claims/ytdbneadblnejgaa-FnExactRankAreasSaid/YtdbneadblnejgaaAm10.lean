/- The abstract layer, part 10: what simp needs to lay the conditions out, and ways to close them. -/
import Derived.Test.YtdbneadblnejgaaAm9
namespace Go.Am
open Go.RowKit
set_option linter.unusedVariables false

/-! ### Heaps that are written out behind the heap at the entry -/
theorem Heap.get_len (H L : Heap) : Heap.get (H ++ L) H.length = Heap.get L 0 := Heap.get_append_zero
theorem Heap.get_len_add (H L : Heap) (j : Nat) : Heap.get (H ++ L) (H.length + j) = Heap.get L j := Heap.get_append_right
theorem Heap.get_cons (b : Option Blk) (r : Heap) (n : Nat) : Heap.get (b :: r) n = if n = 0 then b else Heap.get r (n - 1) := by
  cases n with
  | zero => simp [Heap.get]
  | succ n => simp [Heap.get]
theorem Heap.get_nil (n : Nat) : Heap.get [] n = none := by simp [Heap.get]
theorem Heap.set_len (H L : Heap) (x : Option Blk) : (H ++ L).set H.length x = H ++ L.set 0 x := by
  rw [List.set_append_right _ _ (Nat.le_refl _), Nat.sub_self]
theorem Heap.set_len_add (H L : Heap) (j : Nat) (x : Option Blk) : (H ++ L).set (H.length + j) x = H ++ L.set j x := by
  rw [List.set_append_right _ _ (by omega), Nat.add_sub_cancel_left]
theorem set_cons_if {α : Type} (b : α) (r : List α) (n : Nat) (x : α) : (b :: r).set n x = if n = 0 then x :: r else b :: r.set (n - 1) x := by
  cases n <;> simp
theorem drop_cons_if {α : Type} (b : α) (r : List α) (n : Nat) : (b :: r).drop n = if n = 0 then b :: r else r.drop (n - 1) := by
  cases n <;> simp
theorem take_cons_if {α : Type} (b : α) (r : List α) (n : Nat) : (b :: r).take n = if n = 0 then [] else b :: r.take (n - 1) := by
  cases n <;> simp
theorem getElem?_cons_if {α : Type} (b : α) (r : List α) (n : Nat) : (b :: r)[n]? = if n = 0 then some b else r[n - 1]? := by
  cases n <;> simp
theorem Fr.get_cons (k n : Nat) (v : Value) (r : Fr) : Fr.get ((k, v) :: r) n = if n = k then some v else Fr.get r n := rfl
theorem Fr.get_nil (n : Nat) : Fr.get [] n = none := rfl
def aC1 (b : Option Blk) (off n : Nat) : Option (List Value) := match b with | some b => if off + n ≤ b.xs.length then some ((b.xs.drop off).take n) else none | none => none
theorem aCells_eq (H : Heap) (t off n : Nat) : aCells H ⟨t, off, none⟩ n = aC1 (H.get t) off n := by
  unfold aCells aC1
  rw [if_pos rfl]
  rfl
theorem aCells_at0 (H L : Heap) (off n : Nat) : aCells (H ++ L) ⟨H.length, off, none⟩ n = aC1 (Heap.get L 0) off n := by rw [aCells_eq, Heap.get_len]
theorem aCells_atj (H L : Heap) (j off n : Nat) : aCells (H ++ L) ⟨H.length + j, off, none⟩ n = aC1 (Heap.get L j) off n := by rw [aCells_eq, Heap.get_len_add]
theorem aCells_old {H L : Heap} {t off n : Nat} (h : t < H.length) : aCells (H ++ L) ⟨t, off, none⟩ n = aCells H ⟨t, off, none⟩ n := by rw [aCells_eq, aCells_eq, Heap.get_append_left h]
theorem blkSz_len (H L : Heap) : blkSz (H ++ L) H.length = blkSz L 0 := by unfold blkSz; rw [Heap.get_len]
theorem blkSz_len_add (H L : Heap) (j : Nat) : blkSz (H ++ L) (H.length + j) = blkSz L j := by unfold blkSz; rw [Heap.get_len_add]
theorem blkSz_old {H L : Heap} {t : Nat} (h : t < H.length) : blkSz (H ++ L) t = blkSz H t := by unfold blkSz; rw [Heap.get_append_left h]
theorem blkSz_cons (b : Option Blk) (r : Heap) (n : Nat) : blkSz (b :: r) n = if n = 0 then b.map (·.sz) else blkSz r (n - 1) := by
  unfold blkSz; rw [Heap.get_cons]; cases n with
  | zero => simp; cases b <;> rfl
  | succ n => simp
theorem roH_of {H : Heap} {t : Nat} {b : Blk} (hb : H.get t = some b) : (roH H).get t = some { b with own := false } := by rw [roH_get, hb]; rfl
theorem wrap_ok {x : Int} (h1 : -9223372036854775808 ≤ x) (h2 : x ≤ 9223372036854775807) : IntKind.i64.wrap x = x := by
  rw [IntKind.wrap_i64]; omega
theorem wrap_u8 {x : Int} (h1 : 0 ≤ x) (h2 : x ≤ 255) : IntKind.u8.wrap x = x := by
  simp [IntKind.wrap, IntKind.signed, IntKind.bits]; omega
theorem tdiv_ok {a b : Int} (h : 0 ≤ a) : a.tdiv b = a / b := Int.tdiv_eq_ediv_of_nonneg h
theorem tmod_ok {a b : Int} (h : 0 ≤ a) : a.tmod b = a % b := Int.tmod_eq_emod_of_nonneg h
theorem toNat_pred (k : Nat) : ((k : Int) - 1).toNat = k - 1 := by omega
theorem toNat_succ (k : Nat) : ((k : Int) + 1).toNat = k + 1 := by omega
theorem ite_yes {α : Sort _} {c : Prop} [Decidable c] {x y : α} (h : c) : (if c then x else y) = x := if_pos h
theorem ite_no {α : Sort _} {c : Prop} [Decidable c] {x y : α} (h : ¬ c) : (if c then x else y) = y := if_neg h

/-! ### Reading a list of structs -/
theorem flatMap_cells {α : Type} (f : α → List Value) (s : Nat) (hs : ∀ x, (f x).length = s) (d : α) : ∀ (l : List α) (k : Nat), k < l.length → ((l.flatMap f).drop (k * s)).take s = f (l.getD k d)
  | [], k, h => by simp at h
  | x :: l, 0, h => by simp [hs x]
  | x :: l, k + 1, h => by
    have ih := flatMap_cells f s hs d l k (by simpa using h)
    simp only [List.flatMap_cons]
    rw [show (k + 1) * s = (f x).length + k * s by rw [hs, Nat.add_mul]; omega, List.drop_append, Nat.add_sub_cancel_left, List.drop_of_length_le (by omega)]
    simpa using ih
theorem flatMap_length {α : Type} (f : α → List Value) (s : Nat) (hs : ∀ x, (f x).length = s) (l : List α) : (l.flatMap f).length = l.length * s := by
  induction l with
  | nil => simp
  | cons x l ih => simp only [List.flatMap_cons, List.length_append, ih, hs, List.length_cons, Nat.add_mul]; omega

/-- the cells of element k of a list that a block holds -/
theorem cells_at {α : Type} {f : α → List Value} {s : Nat} (hs : ∀ x, (f x).length = s) (d : α) {H : Heap} {t : Nat} {b : Blk} {l : List α} (hb : H.get t = some b) (hx : b.xs = l.flatMap f) (k : Nat) (hk : k < l.length) :
    aCells H ⟨t, k * s, none⟩ s = some (f (l.getD k d)) := by
  unfold aCells
  rw [if_pos rfl]
  simp only [hb, hx]
  have : k * s + s ≤ (l.flatMap f).length := by
    rw [flatMap_length f s hs]
    have := Nat.mul_le_mul_right s (show k + 1 ≤ l.length by omega)
    rw [Nat.add_mul] at this; omega
  rw [if_pos this, flatMap_cells f s hs d l k hk]
theorem cell_at {α : Type} {f : α → List Value} {s : Nat} (hs : ∀ x, (f x).length = s) (d : α) {H : Heap} {t : Nat} {b : Blk} {l : List α} (hb : H.get t = some b) (hx : b.xs = l.flatMap f) (k j : Nat) (hk : k < l.length) (hj : j < s) :
    aCells H ⟨t, k * s + j, none⟩ 1 = some ((f (l.getD k d)).drop j |>.take 1) := by
  have h := flatMap_cells f s hs d l k hk
  unfold aCells
  rw [if_pos rfl]
  simp only [hb, hx]
  have : k * s + s ≤ (l.flatMap f).length := by
    rw [flatMap_length f s hs]
    have := Nat.mul_le_mul_right s (show k + 1 ≤ l.length by omega)
    rw [Nat.add_mul] at this; omega
  rw [if_pos (by omega), ← h]
  congr 1
  rw [List.drop_take, List.drop_drop, List.take_take]
  congr 1
  omega

/-! ### Saying less -/
def sg (m : Nat) (js : List (Option Nat)) : Sig := fun t => if t < m then some t else match js[t - m]? with | some (some i) => some (m + i) | _ => none
def WL (σ : Sig) (n : Nat) (xs' xs : List Value) : Prop := (xs' = xs ∧ xs.all flat = true) ∨ L2 (WM σ n) xs' (xs.take xs'.length)
theorem WM_flat {σ : Sig} {n : Nat} {v : Value} (h : flat v = true) : WM σ n v v := by
  cases v with
  | pointer a => cases a <;> first | rfl | cases h
  | slice a k c => cases a <;> first | rfl | cases h
  | _ => first | rfl | cases h
theorem WL.l2 {σ : Sig} {n : Nat} {xs' xs : List Value} (h : WL σ n xs' xs) : L2 (WM σ n) xs' (xs.take xs'.length) := by
  rcases h with ⟨rfl, hf⟩ | h
  · rw [List.take_length]
    exact L2.refl fun x hx => WM_flat (List.all_eq_true.1 hf x hx)
  · exact h
def wkL (σ : Sig) (n : Nat) (L : Heap) : Heap → List (Option Nat) → Prop
  | [], _ => True
  | none :: L', _ :: js => wkL σ n L L' js
  | some b' :: L', none :: js => b'.xs = [] ∧ wkL σ n L L' js
  | some b' :: L', some i :: js => (match Heap.get L i with
    | some b => b'.e = b.e ∧ b'.sz = b.sz ∧ (b'.own = true → b.own = true) ∧ WL σ n b'.xs b.xs
    | none => False) ∧ wkL σ n L L' js
  | _ :: _, [] => False
def jsOk (js : List (Option Nat)) : Bool := decide ((js.filterMap id).Nodup)

theorem wkL_get {σ : Sig} {n : Nat} {L : Heap} : ∀ {L' : Heap} {js : List (Option Nat)}, wkL σ n L L' js → ∀ j b', Heap.get L' j = some b' →
    (js[j]? = some none ∧ b'.xs = []) ∨ ∃ i b, js[j]? = some (some i) ∧ Heap.get L i = some b ∧ b'.e = b.e ∧ b'.sz = b.sz ∧ (b'.own = true → b.own = true) ∧ WL σ n b'.xs b.xs
  | [], _, _, j, b', hb => by rw [Heap.get_nil] at hb; cases hb
  | c :: L', [], h, j, b', hb => by cases c <;> exact h.elim
  | none :: L', x :: js, h, j, b', hb => by
    cases j with
    | zero => rw [Heap.get_cons] at hb; simp at hb
    | succ j => rw [Heap.get_cons] at hb; simpa using wkL_get (L' := L') (js := js) h j b' (by simpa using hb)
  | some c :: L', none :: js, h, j, b', hb => by
    cases j with
    | zero => rw [Heap.get_cons] at hb; simp at hb; subst hb; exact .inl ⟨by simp, h.1⟩
    | succ j => rw [Heap.get_cons] at hb; simpa using wkL_get (L' := L') (js := js) h.2 j b' (by simpa using hb)
  | some c :: L', some i :: js, h, j, b', hb => by
    cases j with
    | zero =>
      rw [Heap.get_cons] at hb
      simp at hb
      subst hb
      have h1 := h.1
      cases hq : Heap.get L i with
      | none => rw [hq] at h1; exact h1.elim
      | some b => rw [hq] at h1; exact .inr ⟨i, b, by simp, hq, h1⟩
    | succ j => rw [Heap.get_cons] at hb; simpa using wkL_get (L' := L') (js := js) h.2 j b' (by simpa using hb)

theorem nodup_filterMap {js : List (Option Nat)} (h : (js.filterMap id).Nodup) : ∀ (j j' i : Nat), j ≠ j' → js[j]? = some (some i) → js[j']? ≠ some (some i) := by
  induction js with
  | nil => intro j j' i _ h; simp at h
  | cons x js ih =>
    intro j j' i hne hj hj'
    have hmem : ∀ k, js[k]? = some (some i) → i ∈ js.filterMap id := fun k hk => List.mem_filterMap.2 ⟨some i, List.mem_of_getElem? hk, rfl⟩
    cases x with
    | none =>
      have h' : (js.filterMap id).Nodup := by simpa using h
      cases j with
      | zero => simp at hj
      | succ j => cases j' with
        | zero => simp at hj'
        | succ j' => exact ih h' j j' i (by omega) (by simpa using hj) (by simpa using hj')
    | some y =>
      have h' : y ∉ js.filterMap id ∧ (js.filterMap id).Nodup := by simpa using h
      cases j with
      | zero => cases j' with
        | zero => exact hne rfl
        | succ j' => simp at hj; subst hj; exact h'.1 (hmem j' (by simpa using hj'))
      | succ j => cases j' with
        | zero => simp at hj'; subst hj'; exact h'.1 (hmem j (by simpa using hj))
        | succ j' => exact ih h'.2 j j' i (by omega) (by simpa using hj) (by simpa using hj')

theorem weak_mk {H L L' : Heap} (js : List (Option Nat)) (hj : jsOk js = true) (h : wkL (sg H.length js) (H.length + L'.length) L L' js) : Weak H (sg H.length js) (H ++ L') (H ++ L) := by
  have hnd := nodup_filterMap (of_decide_eq_true hj)
  have hsg : ∀ j, sg H.length js (H.length + j) = match js[j]? with | some (some i) => some (H.length + i) | _ => none := by
    intro j; unfold sg; rw [if_neg (by omega), Nat.add_sub_cancel_left]
  refine ⟨by simp, fun t ht => by simp [sg, ht], fun t b' hb => ?_, fun t t' s b b' hne h1 h2 hb hb' ho => ?_⟩
  · rcases Nat.lt_or_ge t H.length with ht | ht
    · rw [Heap.get_append_left ht] at hb
      exact .inl ⟨ht, by rw [Heap.get_append_left ht]; exact hb, hb⟩
    · obtain ⟨j, rfl⟩ := Nat.exists_eq_add_of_le ht
      rw [Heap.get_append_right] at hb
      rcases wkL_get h j b' hb with ⟨h1, h2⟩ | ⟨i, b, h1, h2, h3, h4, h5, h6⟩
      · exact .inr (.inl ⟨by rw [hsg, h1], h2⟩)
      · refine .inr (.inr ⟨H.length + i, b, b'.xs.length, by rw [hsg, h1], by rw [Heap.get_append_right]; exact h2, h3, h4, h5, ?_⟩)
        simpa using h6.l2
  · exfalso
    rcases Nat.lt_or_ge t H.length with ht | ht
    · have e1 : s = t := by simp [sg, ht] at h1; exact h1.symm
      rcases Nat.lt_or_ge t' H.length with ht' | ht'
      · have : s = t' := by simp [sg, ht'] at h2; exact h2.symm
        omega
      · obtain ⟨j', rfl⟩ := Nat.exists_eq_add_of_le ht'
        rw [hsg] at h2
        split at h2
        · cases h2; omega
        · cases h2
    · obtain ⟨j, rfl⟩ := Nat.exists_eq_add_of_le ht
      rw [hsg] at h1
      split at h1
      · rename_i i hi
        cases h1
        rcases Nat.lt_or_ge t' H.length with ht' | ht'
        · have : H.length + i = t' := by simp [sg, ht'] at h2; omega
          omega
        · obtain ⟨j', rfl⟩ := Nat.exists_eq_add_of_le ht'
          rw [hsg] at h2
          split at h2
          · rename_i i' hi'
            have : i' = i := by injection h2 with h2; omega
            subst this
            exact hnd j j' i' (by omega) hi hi'
          · cases h2
      · cases h1

theorem weakS_mk {H L L' : Heap} {fr fr' : Fr} (js : List (Option Nat)) (hj : jsOk js = true) (h : wkL (sg H.length js) (H.length + L'.length) L L' js) (hf : FrW (sg H.length js) (H.length + L'.length) fr' fr) : WeakS H fr' (H ++ L') fr (H ++ L) :=
  ⟨_, weak_mk js hj h, by simpa using hf⟩
theorem weakS_mk0 {H L' : Heap} {fr fr' : Fr} (js : List (Option Nat)) (hj : jsOk js = true) (h : wkL (sg H.length js) (H.length + L'.length) [] L' js) (hf : FrW (sg H.length js) (H.length + L'.length) fr' fr) : WeakS H fr' (H ++ L') fr H := by
  have := weakS_mk (L := []) js hj h hf
  rwa [List.append_nil] at this
theorem weakS_same {H : Heap} {fr fr' : Fr} (hf : FrW (sg H.length []) H.length fr' fr) : WeakS H fr' H fr H := by
  have := weakS_mk (H := H) (L := []) (L' := []) [] rfl trivial (by simpa using hf)
  simpa using this
theorem weakS_drop {H L : Heap} {fr fr' : Fr} (hf : FrW (sg H.length []) H.length fr' fr) : WeakS H fr' H fr (H ++ L) := by
  have := weakS_mk (H := H) (L := L) (L' := []) [] rfl trivial (by simpa using hf)
  simpa using this
theorem fin_list {H L L' : Heap} {v vf : Value} (js : List (Option Nat)) (hj : jsOk js = true) (h : wkL (sg H.length js) (H.length + L'.length) L L' js) (hf : WS (sg H.length js) (H.length + L'.length) v vf) : WeakV H v (H ++ L') vf (H ++ L) :=
  ⟨_, weak_mk js hj h, by simpa using hf⟩
theorem WM1_flat1 {σ : Sig} {n : Nat} {v : Value} (h : flat1 v = true) : WM1 σ n v v := by
  cases v with
  | agg cs => exact ⟨cs, rfl, L2.refl fun x hx => WM_flat (List.all_eq_true.1 h x hx)⟩
  | pointer a => cases a <;> first | rfl | cases h
  | slice a k c => cases a <;> first | rfl | cases h
  | _ => first | rfl | cases h
theorem WS_flat2 {σ : Sig} {n : Nat} {v : Value} (h : flat2 v = true) : WS σ n v v := by
  cases v with
  | tuple vs => exact ⟨vs, rfl, L2.refl fun x hx => WM1_flat1 (List.all_eq_true.1 h x hx)⟩
  | _ => simp only [WS]; exact WM1_flat1 h
/-- a result without addresses: nothing that the call made is kept -/
theorem fin_flat {H L : Heap} {v vf : Value} (hf : flat2 v = true) (e : vf = v) : WeakV H v H vf (H ++ L) := by
  subst e
  have := weak_mk (H := H) (L := L) (L' := []) [] rfl trivial
  rw [List.append_nil] at this
  exact ⟨_, this, WS_flat2 hf⟩
theorem fin_flat0 {H : Heap} {v vf : Value} (hf : flat2 v = true) (e : vf = v) : WeakV H v H vf H := by
  have := fin_flat (H := H) (L := []) hf e
  rwa [List.append_nil] at this

section
variable {P : Program} {N : Nat} {H0 H : Heap} {Q : APost} {K : Fr → Heap → Prop} {KV : Value → Heap → Prop} {K1 : Fr → Prop} {KV1 : Value → Prop} {fr : Fr} {ops : Array Oper}
theorem seq_normal : APost.seq K Q .normal fr H = K fr H := rfl
theorem seq_exit {i : Nat} : APost.seq K Q (.exit i) fr H = Q (.exit i) fr H := rfl
theorem seq_ret : APost.seq K Q .ret fr H = Q .ret fr H := rfl
theorem blk_normal {i : Nat} : APost.blk i Q .normal fr H = Q .normal fr H := rfl
theorem blk_ret {i : Nat} : APost.blk i Q .ret fr H = Q .ret fr H := rfl
theorem blk_exit {i j : Nat} : APost.blk i Q (.exit j) fr H = if j = i then Q .normal fr H else Q (.exit j) fr H := rfl
theorem fin_normal {rs : List ResultVar} {v : Value} {H' : Heap} : Fin P rs H0 v H' .normal fr H = FinV H0 v H' H (aRes P rs fr H) := rfl
theorem fin_ret {rs : List ResultVar} {v : Value} {H' : Heap} : Fin P rs H0 v H' .ret fr H = FinV H0 v H' H (aRes P rs fr H) := rfl
theorem finV_some {v vf : Value} {H' : Heap} : FinV H0 v H' H (some vf) = WeakV H0 v H' vf H := rfl
theorem now_eq : APost.now Q H fr = Q .normal fr H := rfl
theorem St_eq {C : Fr → Heap → Prop} {tok : Tok C} : St C tok fr H = C fr H := rfl
theorem St1_eq {C : Fr → Prop} {tok : Tok C} : St1 C tok fr = C fr := rfl
theorem kput_eq {d : Option Tmp} {v : Value} : kput K fr d v H = St K .mk (fr.put d v) H := rfl
theorem kput1_eq {d : Option Tmp} {v : Value} : kput1 K1 fr d v = St1 K1 .mk (fr.put d v) := rfl
section
variable {tok : Tok KV} {tok1 : Tok KV1}
theorem onV_some {v : Value} : onV (some v) KV tok H = KV v H := rfl
theorem onQ_some {v : Value} : onQ (some v) KV1 tok1 = KV1 v := rfl
theorem onH_some {H' : Heap} : onH (some H') KV tok = KV undef H' := rfl
theorem vcBox_some {e : TypeId} {v : Value} : vcBox e H KV tok (some v) = (isArg v = true ∧ KV (.pointer (some ⟨H.length, 0, none⟩)) (H ++ [some ⟨v.cells.toList, true, e, 1⟩])) := rfl
theorem vcNew_some {e : TypeId} {l : List Value} : vcNew e H KV tok (some l) = KV (.pointer (some ⟨H.length, 0, none⟩)) (H ++ [some ⟨l, true, e, 1⟩]) := rfl
theorem vcCall_some {g : FuncId} {f cap : Array Value} {vs : List Value} : vcCall P H KV tok (some (.func (.func g) f cap)) (some vs) = (vs.all isArg = true ∧ ACall P g (vs ++ cap.toList) H KV .mk) := rfl
theorem vcCallQ_some {g : FuncId} {f cap : Array Value} {vs : List Value} : vcCallQ P H KV1 tok1 (some (.func (.func g) f cap)) (some vs) = (vs.all isArg = true ∧ ACallQ P g (vs ++ cap.toList) H KV1 .mk) := rfl
attribute [go_sem] appIf_true appIf_false appIf_yes
theorem vcApp_two {s x : Option Value} {t t' : TypeId} : vcApp P H KV tok [s, x] [t, t'] = (t' = t ∧ vcAppend P t H KV .mk s x) := rfl
end
section
variable {R S U : Prop} {tr : Tok R} {ts : Tok S} {tu : Tok U}
theorem vcGuard_true {b : Bool} : vcGuard (some (.bool b)) true R S U tr ts tu = AIf b R S .mk .mk := rfl
theorem vcGuard_false {b : Bool} : vcGuard (some (.bool b)) false R S U tr ts tu = AIf b S R .mk .mk := rfl
theorem vcGuard_undef {b : Bool} : vcGuard (some undef) b R S U tr ts tu = U := rfl
end
theorem slotV_some {g : Nat} : slotV fr (some g) = fr.get g := rfl
theorem vcOps_nil : vcOps P ops [] K fr H = K fr H := rfl
theorem vcOps_plain {d : Option Tmp} {op : Op} {ty : TypeId} {pos : String} {af : Array Edge} {l : List Oper} : vcOps P ops (⟨d, op, ty, pos, af, none⟩ :: l) K fr H = vcOp P ⟨d, op, ty, pos, af, none⟩ (vcOps P ops l K) fr H := rfl
theorem vcOps_guard {d : Option Tmp} {op : Op} {ty : TypeId} {pos : String} {af : Array Edge} {j : Nat} {want : Bool} {l : List Oper} : vcOps P ops (⟨d, op, ty, pos, af, some (j, want)⟩ :: l) K fr H =
  vcGuard (slotV fr (slotOf ops j)) want (St (vcOp P ⟨d, op, ty, pos, af, some (j, want)⟩ (vcOps P ops l K)) .mk (Fr.put fr (slotOf ops j) (.bool want)) H) (St (vcOps P ops l K) .mk (Fr.put (Fr.put fr (slotOf ops j) (.bool !want)) d undef) H) (St (vcOps P ops l K) .mk (Fr.put fr d undef) H) .mk .mk .mk := rfl
theorem vcQ_nil : vcQ P ops H [] K1 fr = K1 fr := rfl
theorem vcQ_plain {d : Option Tmp} {op : Op} {ty : TypeId} {pos : String} {af : Array Edge} {l : List Oper} : vcQ P ops H (⟨d, op, ty, pos, af, none⟩ :: l) K1 fr = vcQ1 P ⟨d, op, ty, pos, af, none⟩ (vcQ P ops H l K1) fr H := rfl
theorem vcQ_guard {d : Option Tmp} {op : Op} {ty : TypeId} {pos : String} {af : Array Edge} {j : Nat} {want : Bool} {l : List Oper} : vcQ P ops H (⟨d, op, ty, pos, af, some (j, want)⟩ :: l) K1 fr =
  vcGuard (slotV fr (slotOf ops j)) want (St (vcQ1 P ⟨d, op, ty, pos, af, some (j, want)⟩ (vcQ P ops H l K1)) .mk (Fr.put fr (slotOf ops j) (.bool want)) H) (St1 (vcQ P ops H l K1) .mk (Fr.put (Fr.put fr (slotOf ops j) (.bool !want)) d undef)) (St1 (vcQ P ops H l K1) .mk (Fr.put fr d undef)) .mk .mk .mk := rfl
def evPs (fr : Fr) (l : List (Nat × Operand)) : List (Nat × Option Value) := l.map fun p => (p.1, aEv fr p.2)
theorem evPs_nil : evPs fr [] = [] := rfl
theorem evPs_cons {n : Nat} {x : Operand} {l : List (Nat × Operand)} : evPs fr ((n, x) :: l) = (n, aEv fr x) :: evPs fr l := rfl
section
variable {d : Option Tmp} {ty : TypeId} {pos : String} {af : Array Edge} {gd : Option (Nat × Bool)}
theorem vcOp_move {x : Operand} : vcOp P ⟨d, .move x, ty, pos, af, gd⟩ K fr H = onV (aEv fr x) (kput K fr d) .mk H := rfl
theorem vcOp_assign {x : Operand} : vcOp P ⟨d, .assign x, ty, pos, af, gd⟩ K fr H = onV (aEv fr x) (kput K fr d) .mk H := rfl
theorem vcOp_pick {c a b : Operand} : vcOp P ⟨d, .pick c a b, ty, pos, af, gd⟩ K fr H = onV (aPick (aEv fr c) (aEv fr a) (aEv fr b)) (kput K fr d) .mk H := rfl
theorem vcOp_binOp {op : BinOp} {t t' : TypeId} {x y : Operand} : vcOp P ⟨d, .binOp op t x y t', ty, pos, af, gd⟩ K fr H = onV (aBin P op t (aEv fr x) (aEv fr y)) (kput K fr d) .mk H := rfl
theorem vcOp_unOp {op : UnOp} {t : TypeId} {x : Operand} : vcOp P ⟨d, .unOp op t x, ty, pos, af, gd⟩ K fr H = onV (aUn op (aEv fr x)) (kput K fr d) .mk H := rfl
theorem vcOp_load {t : TypeId} {x : Operand} : vcOp P ⟨d, .load t x, ty, pos, af, gd⟩ K fr H = onV (aLoadV (loadT P t) H (aEv fr x)) (kput K fr d) .mk H := rfl
theorem vcOp_fieldAddr {t f : Nat} {x : Operand} : vcOp P ⟨d, .fieldAddr t x f, ty, pos, af, gd⟩ K fr H = onV (aFieldAddr (fieldOff P t f) (aEv fr x)) (kput K fr d) .mk H := rfl
theorem vcOp_indexAddr {t : TypeId} {x i : Operand} : vcOp P ⟨d, .indexAddr t x i, ty, pos, af, gd⟩ K fr H = onV (aIndexAddr (sliceT P t) (arrT P t) (aEv fr x) (aEv fr i)) (kput K fr d) .mk H := rfl
theorem vcOp_field {t f : Nat} {x : Operand} : vcOp P ⟨d, .field t x f, ty, pos, af, gd⟩ K fr H = onV (aField (fieldT P t f) (aEv fr x)) (kput K fr d) .mk H := rfl
theorem vcOp_index {t : TypeId} {x i : Operand} : vcOp P ⟨d, .index t x i, ty, pos, af, gd⟩ K fr H = onV (aIndex P t (arrT P t) (aEv fr x) (aEv fr i)) (kput K fr d) .mk H := rfl
theorem vcOp_slice {t : TypeId} {x : Operand} {lo hi : Option Operand} : vcOp P ⟨d, .slice t x lo hi none, ty, pos, af, gd⟩ K fr H = onV (aSlice2 P H t (sliceT P t) (aEv fr x) (lo.map (aEv fr)) (hi.map (aEv fr))) (kput K fr d) .mk H := rfl
theorem vcOp_slice3 {t : TypeId} {x l h m : Operand} : vcOp P ⟨d, .slice t x (some l) (some h) (some m), ty, pos, af, gd⟩ K fr H = vcSlice3 (sliceT P t) (aEv fr x) (aEv fr l) (aEv fr h) (aEv fr m) (kdel K fr d H) .mk := rfl
theorem vcOp_clear {args : Array Operand} {ts : Array TypeId} : vcOp P ⟨d, .call ⟨.builtin .clear, args, ts⟩, ty, pos, af, gd⟩ K fr H = vcClear (kput K fr d) .mk H (clearT1 P ts.toList) (args.toList.map (aEv fr)) := rfl
theorem kdel_eq {K : Fr → Heap → Prop} : kdel K fr d H = St K .mk (fr.del d) H := rfl
attribute [go_sem ↓] vcOp_slice3 vcOp_clear kdel_eq
attribute [go_sem] aSlice2 aSliceX vcSlice3 vcClear clearT1 Fr.del List.filter_cons List.filter_nil
theorem vcOp_extract {x : Operand} {i : Nat} : vcOp P ⟨d, .extract x i, ty, pos, af, gd⟩ K fr H = onV (aExtract i (aEv fr x)) (kput K fr d) .mk H := rfl
theorem vcOp_convert {s t : TypeId} {x : Operand} : vcOp P ⟨d, .convert s t x, ty, pos, af, gd⟩ K fr H = onV (aConv2 P H s t (aEv fr x)) (kput K fr d) .mk H := rfl
theorem vcOp_nilCheck {x : Operand} : vcOp P ⟨d, .nilCheck x, ty, pos, af, gd⟩ K fr H = onV (aNil (aEv fr x)) (kput K fr d) .mk H := rfl
theorem vcOp_makeFunc {fn : Fn} {first captured : Array Operand} : vcOp P ⟨d, .makeFunc fn first captured, ty, pos, af, gd⟩ K fr H = onV (aOp P fr H (.makeFunc fn first captured)) (kput K fr d) .mk H := rfl
theorem vcOp_box {e : TypeId} {x : Operand} : vcOp P ⟨d, .box e x, ty, pos, af, gd⟩ K fr H = vcBox e H (kput K fr d) .mk (aEv fr x) := rfl
theorem vcOp_alloc {e : TypeId} : vcOp P ⟨d, .alloc e, ty, pos, af, gd⟩ K fr H = vcNew e H (kput K fr d) .mk (zeroT P e) := rfl
theorem vcOp_build {t : TypeId} {ps : Array (Nat × Operand)} : vcOp P ⟨d, .build t ps, ty, pos, af, gd⟩ K fr H = onV (aBuild P t (evPs fr ps.toList)) (kput K fr d) .mk H := rfl
theorem vcOp_buildSlice {t len : Nat} {ps : Array (Nat × Operand)} : vcOp P ⟨d, .buildSlice t len ps, ty, pos, af, gd⟩ K fr H = vcBuildSlice P t H len (evPs fr ps.toList) (kput K fr d) .mk := rfl
theorem vcOp_makeSlice {t : TypeId} {l c : Operand} : vcOp P ⟨d, .makeSlice t l c, ty, pos, af, gd⟩ K fr H = vcMakeSlice P t H (kput K fr d) .mk (aEv fr l) (aEv fr c) := rfl
theorem vcOp_store {t : TypeId} {x v : Operand} : vcOp P ⟨d, .store t x v, ty, pos, af, gd⟩ K fr H = onH (aStore P H t (aEv fr x) (aEv fr v)) (kput K fr d) .mk := rfl
theorem vcOp_call {f : Operand} {args : Array Operand} {ts : Array TypeId} : vcOp P ⟨d, .call ⟨.value f, args, ts⟩, ty, pos, af, gd⟩ K fr H = vcCall P H (kput K fr d) .mk (aEv fr f) (aAll (args.toList.map (aEv fr))) := rfl
theorem vcOp_append {args : Array Operand} {ts : Array TypeId} : vcOp P ⟨d, .call ⟨.builtin .append, args, ts⟩, ty, pos, af, gd⟩ K fr H = vcApp P H (kput K fr d) .mk (args.toList.map (aEv fr)) ts.toList := rfl
theorem vcOp_len {args : Array Operand} {ts : Array TypeId} : vcOp P ⟨d, .call ⟨.builtin .len, args, ts⟩, ty, pos, af, gd⟩ K fr H = onV (aBuiltin P .len ts.toList (args.toList.map (aEv fr))) (kput K fr d) .mk H := rfl
theorem vcOp_min {args : Array Operand} {ts : Array TypeId} : vcOp P ⟨d, .call ⟨.builtin .min, args, ts⟩, ty, pos, af, gd⟩ K fr H = onV (aFold1 aMin2 (args.toList.map (aEv fr))) (kput K fr d) .mk H := rfl
theorem vcOp_max {args : Array Operand} {ts : Array TypeId} : vcOp P ⟨d, .call ⟨.builtin .max, args, ts⟩, ty, pos, af, gd⟩ K fr H = onV (aFold1 aMax2 (args.toList.map (aEv fr))) (kput K fr d) .mk H := rfl
theorem vcQ1_move {x : Operand} : vcQ1 P ⟨d, .move x, ty, pos, af, gd⟩ K1 fr H = onQ (aEv fr x) (kput1 K1 fr d) .mk := rfl
theorem vcQ1_assign {x : Operand} : vcQ1 P ⟨d, .assign x, ty, pos, af, gd⟩ K1 fr H = onQ (aEv fr x) (kput1 K1 fr d) .mk := rfl
theorem vcQ1_pick {c a b : Operand} : vcQ1 P ⟨d, .pick c a b, ty, pos, af, gd⟩ K1 fr H = onQ (aPick (aEv fr c) (aEv fr a) (aEv fr b)) (kput1 K1 fr d) .mk := rfl
theorem vcQ1_binOp {op : BinOp} {t t' : TypeId} {x y : Operand} : vcQ1 P ⟨d, .binOp op t x y t', ty, pos, af, gd⟩ K1 fr H = onQ (aBin P op t (aEv fr x) (aEv fr y)) (kput1 K1 fr d) .mk := rfl
theorem vcQ1_unOp {op : UnOp} {t : TypeId} {x : Operand} : vcQ1 P ⟨d, .unOp op t x, ty, pos, af, gd⟩ K1 fr H = onQ (aUn op (aEv fr x)) (kput1 K1 fr d) .mk := rfl
theorem vcQ1_load {t : TypeId} {x : Operand} : vcQ1 P ⟨d, .load t x, ty, pos, af, gd⟩ K1 fr H = onQ (aLoadV (loadT P t) H (aEv fr x)) (kput1 K1 fr d) .mk := rfl
theorem vcQ1_fieldAddr {t f : Nat} {x : Operand} : vcQ1 P ⟨d, .fieldAddr t x f, ty, pos, af, gd⟩ K1 fr H = onQ (aFieldAddr (fieldOff P t f) (aEv fr x)) (kput1 K1 fr d) .mk := rfl
theorem vcQ1_indexAddr {t : TypeId} {x i : Operand} : vcQ1 P ⟨d, .indexAddr t x i, ty, pos, af, gd⟩ K1 fr H = onQ (aIndexAddr (sliceT P t) (arrT P t) (aEv fr x) (aEv fr i)) (kput1 K1 fr d) .mk := rfl
theorem vcQ1_field {t f : Nat} {x : Operand} : vcQ1 P ⟨d, .field t x f, ty, pos, af, gd⟩ K1 fr H = onQ (aField (fieldT P t f) (aEv fr x)) (kput1 K1 fr d) .mk := rfl
theorem vcQ1_index {t : TypeId} {x i : Operand} : vcQ1 P ⟨d, .index t x i, ty, pos, af, gd⟩ K1 fr H = onQ (aIndex P t (arrT P t) (aEv fr x) (aEv fr i)) (kput1 K1 fr d) .mk := rfl
theorem vcQ1_slice {t : TypeId} {x : Operand} {lo hi : Option Operand} : vcQ1 P ⟨d, .slice t x lo hi none, ty, pos, af, gd⟩ K1 fr H = onQ (aSlice P H t (sliceT P t) (aEv fr x) (lo.map (aEv fr)) (hi.map (aEv fr))) (kput1 K1 fr d) .mk := rfl
theorem vcQ1_extract {x : Operand} {i : Nat} : vcQ1 P ⟨d, .extract x i, ty, pos, af, gd⟩ K1 fr H = onQ (aExtract i (aEv fr x)) (kput1 K1 fr d) .mk := rfl
theorem vcQ1_convert {s t : TypeId} {x : Operand} : vcQ1 P ⟨d, .convert s t x, ty, pos, af, gd⟩ K1 fr H = onQ (aConv P s t (aEv fr x)) (kput1 K1 fr d) .mk := rfl
theorem vcQ1_nilCheck {x : Operand} : vcQ1 P ⟨d, .nilCheck x, ty, pos, af, gd⟩ K1 fr H = onQ (aNil (aEv fr x)) (kput1 K1 fr d) .mk := rfl
theorem vcQ1_makeFunc {fn : Fn} {first captured : Array Operand} : vcQ1 P ⟨d, .makeFunc fn first captured, ty, pos, af, gd⟩ K1 fr H = onQ (aOp P fr H (.makeFunc fn first captured)) (kput1 K1 fr d) .mk := rfl
theorem vcQ1_call {f : Operand} {args : Array Operand} {ts : Array TypeId} : vcQ1 P ⟨d, .call ⟨.value f, args, ts⟩, ty, pos, af, gd⟩ K1 fr H = vcCallQ P H (kput1 K1 fr d) .mk (aEv fr f) (aAll (args.toList.map (aEv fr))) := rfl
theorem vcQ1_builtin {b : Builtin} {args : Array Operand} {ts : Array TypeId} : vcQ1 P ⟨d, .call ⟨.builtin b, args, ts⟩, ty, pos, af, gd⟩ K1 fr H = onQ (aBuiltin P b ts.toList (args.toList.map (aEv fr))) (kput1 K1 fr d) .mk := rfl
end
theorem vcC_skip : vcCode P N H0 .skip Q fr H = Q .normal fr H := rfl
theorem vcC_label {l : Nat} : vcCode P N H0 (.label l) Q fr H = Q .normal fr H := rfl
theorem vcC_region {i : Nat} {l : List Oper} : vcCode P N H0 (.region i l.toArray false) Q fr H = vcOps P l.toArray l (Q .normal) fr H := rfl
theorem vcC_draw {i : Nat} : vcCode P N H0 (.region i ops true) Q fr H = ADraw P N H0 i ops Q fr H .mk := rfl
theorem vcC_seq {a b : Code} : vcCode P N H0 (.seq a b) Q fr H = vcCode P N H0 a (Q.seq (vcCode P N H0 b Q)) fr H := rfl
theorem vcC_cond {c : Operand} {a b : Code} : vcCode P N H0 (.cond c a b) Q fr H = vcGuard (aEv fr c) true (vcCode P N H0 a Q fr H) (vcCode P N H0 b Q fr H) False .mk .mk .mk := rfl
theorem vcC_block {i : Nat} {c : Code} : vcCode P N H0 (.block i c) Q fr H = vcCode P N H0 c (Q.blk i) fr H := rfl
theorem vcC_loop {c : Code} : vcCode P N H0 (.loop c) Q fr H = ALoop P N H0 c Q fr H .mk := rfl
theorem vcC_exit {i : Nat} : vcCode P N H0 (.exit i) Q fr H = Q (.exit i) fr H := rfl
theorem vcC_ret : vcCode P N H0 .ret Q fr H = Q .ret fr H := rfl
end
attribute [go_sem ↓] evPs_nil evPs_cons seq_normal seq_exit seq_ret blk_normal blk_ret blk_exit now_eq kput_eq kput1_eq vcOps_nil vcOps_plain vcOps_guard vcQ_nil vcQ_plain vcQ_guard vcC_skip vcC_label vcC_region vcC_draw vcC_seq vcC_cond vcC_block vcC_loop vcC_exit vcC_ret
  vcOp_move vcOp_assign vcOp_pick vcOp_binOp vcOp_unOp vcOp_load vcOp_fieldAddr vcOp_indexAddr vcOp_field vcOp_index vcOp_slice vcOp_extract vcOp_convert vcOp_nilCheck vcOp_makeFunc vcOp_box vcOp_alloc vcOp_build vcOp_buildSlice vcOp_makeSlice vcOp_store vcOp_call vcOp_append vcOp_len vcOp_min vcOp_max
  vcQ1_move vcQ1_assign vcQ1_pick vcQ1_binOp vcQ1_unOp vcQ1_load vcQ1_fieldAddr vcQ1_indexAddr vcQ1_field vcQ1_index vcQ1_slice vcQ1_extract vcQ1_convert vcQ1_nilCheck vcQ1_makeFunc vcQ1_call vcQ1_builtin fin_normal fin_ret
attribute [go_sem] St_eq St1_eq finV_some onV_some onQ_some onH_some vcBox_some vcNew_some vcCall_some vcCallQ_some vcApp_two vcGuard_true vcGuard_false vcGuard_undef slotV_some AIf_true AIf_false
attribute [go_sem] aConv2 byteL aOp aEv Fr.put Fr.get_cons Fr.get_nil Fr.ofArgs aPick aInt aEqs aBin aStr aUn aLoadV aC1 aCells_at0 aCells_atj aCells_old blkSz_len blkSz_len_add blkSz_old blkSz_cons aFieldAddr aIndexAddr aPart aField aIndex aBound aBounds aSlice aExtract aConv aNil aLen aMin2 aMax2 aFold aFold1
  aBuiltin aAll isPtr flat flat1 flat2 isArg vcAppend aElems aParts vcBuildSlice vcMakeSlice rep aSetL aFill aBuild aStore aRes aRes1 slotOf
  Heap.get_len Heap.get_len_add Heap.get_cons Heap.get_nil Heap.set_len Heap.set_len_add set_cons_if drop_cons_if take_cons_if getElem?_cons_if List.drop_nil List.take_nil List.set_nil List.getElem?_nil
  List.length_append List.length_cons List.length_nil List.append_assoc List.cons_append List.nil_append List.map_cons List.map_nil List.all_cons List.all_nil Option.map_some Option.map_none Option.bind_some Option.bind_none
  List.toList_toArray List.getElem?_toArray List.size_toArray wrap_ok wrap_u8 tdiv_ok tmod_ok toNat_pred toNat_succ Int.toNat_natCast wkL FrW sg WS WM1 WM WMP L2
end Go.Am
