/- The abstract layer, part 12: from a contract to the row: the arguments' reading, and the end. -/
import Derived.Test.YtdbneadblnejgaaAm11
import Derived.ProofKit
import Derived.OpenShut
import Derived.Carry
import Derived.Deep.Slices
import Derived.Deep.Fields
import Derived.ChangeSame
namespace Go.Am
open Go.RowKit Go.ChangeShapes Go.WideShapes Go.Deep
set_option linter.unusedVariables false

/-! ### A slice of structs of one-cell fields -/
section
variable {H : Type} {enc : TypeId × Value → H} {P : Program} {w : World} {base : Nat} {spare : Nat → Bool} {held : Bool}
theorem open_slice_fields {t e : TypeId} {fs : Array Field} {fuel : Nat} {cs : List Value} {x : DataW H × List MemPlace} (ht : P.underlying t = some (.slice e)) (he : P.underlying e = some (.struct fs))
    (hone : oneCellFields P fs = true) (hC : P.cellsOf e = fs.size) (h : DataW.trod enc P w base spare held fuel t cs = some x) :
    (cs = [.slice none 0 0] ∧ x = (.nil, [])) ∨
    ∃ (a : Addr) (len cap m : Nat) (D : Nat → DataW H) (Pl : Nat → List MemPlace), cs = [.slice (some a) len cap] ∧ base ≤ a.block ∧ len ≤ cap ∧ cap ≤ maxLen ∧ m = (if spare a.block then cap else len) ∧
      x = (.slice ((List.range len).map D) ((List.range (m - len)).map fun j => D (len + j)), MemPlace.row a (m * fs.size) ++ (List.range m).flatMap Pl) ∧
      ∀ i, i < m → ∃ (ys : List (DataW H × List MemPlace)) (n : Nat), D i = .agg (ys.map (·.1)) ∧ Pl i = ys.flatMap (·.2) ∧ ys.length = fs.size ∧
        ∀ (j : Nat) (f : Field), fs[j]? = some f → ∃ (v : Value) (y : DataW H × List MemPlace), w.cell? (a.add (i * fs.size + j)) = some v ∧ ys[j]? = some y ∧ DataW.trod enc P w base spare held n f.type [v] = some y := by
  rcases open_slice ht h with h0 | ⟨a, len, cap, m, n, D, Pl, hcs, hb, hl, hm, hmm, hx, hi⟩
  · exact .inl h0
  · refine .inr ⟨a, len, cap, m, D, Pl, hcs, hb, hl, hm, hmm, by rw [hC] at hx; exact hx, fun i him => ?_⟩
    obtain ⟨cs', hc, ht'⟩ := hi i him
    rw [hC] at hc
    obtain ⟨ys, n', hn', hy, hlen, hyl, hf⟩ := DataW.trod_struct he ht'
    obtain ⟨_, hcl, hat⟩ := World.cells?_some hc
    simp only [Prod.mk.injEq] at hy
    refine ⟨ys, n', hy.1, hy.2, hyl, fun j f hj => ?_⟩
    obtain ⟨ho, hk⟩ := hone_of hone j f hj
    have hjl : j < fs.size := (Array.getElem?_eq_some_iff.1 hj).1
    have hcell := hat j hjl
    have hv : cs'[j]? = some (cs'[j]'(by omega)) := List.getElem?_eq_getElem (by omega)
    have h1 := hf j f hj
    rw [ho, hk] at h1
    have hone' : (cs'.drop j).take 1 = [cs'[j]'(by omega)] := by
      rw [List.drop_eq_getElem_cons (by omega)]
      rfl
    rw [hone'] at h1
    have hys : ys[j]? = some (ys[j]'(by omega)) := List.getElem?_eq_getElem (by omega)
    refine ⟨_, _, ?_, hys, h1.trans hys⟩
    rw [← Go.Deep.add_add, hcell, hv]
end

/-! ### The arguments' memory as an abstract heap -/
theorem HR.none (W : World) : HR (fun _ => .none) [] W :=
  ⟨fun t => (by simp), fun t b L h => (by rw [Heap.get_nil] at h; cases h), fun t t' b b' A cap sz A' cap' sz' _ h => (by rw [Heap.get_nil] at h; cases h)⟩
/-- nothing in H is owned -/
def noOwn (H : Heap) : Prop := ∀ t b, H.get t = some b → b.own = false
theorem noOwn_nil : noOwn [] := fun t b h => by rw [Heap.get_nil] at h; cases h
theorem noOwn.snoc {H : Heap} (h : noOwn H) (xs : List Value) (e sz : Nat) : noOwn (H ++ [some ⟨xs, false, e, sz⟩]) := fun t b hb => by
  rcases Heap.get_snoc hb with ⟨_, h2⟩ | ⟨_, h2⟩
  · exact h t b h2
  · cases h2; rfl
theorem HR.arg {ρ : Rho} {H : Heap} {W : World} (h : HR ρ H W) (hno : noOwn H) {xs : List Value} {e sz : Nat} {L : Loc} (hb : BlkR (upd ρ H.length L) ⟨xs, false, e, sz⟩ W L) :
    HR (upd ρ H.length L) (H ++ [some ⟨xs, false, e, sz⟩]) W := by
  have hle := upd_le h L
  refine ⟨fun t => ?_, fun t b L' hb' hL => ?_, fun t t' b b' A cap s A' cap' s' _ h1 _ ho => ?_⟩
  · by_cases ht : t = H.length
    · subst ht; simp [upd]
    · rw [upd_old ht, h.dom t]; simp; omega
  · rcases Heap.get_snoc hb' with ⟨h1, h2⟩ | ⟨h1, h2⟩
    · rw [upd_old (by omega)] at hL
      exact (h.blk t b L' h2 hL).mono hle fun _ _ _ _ _ => rfl
    · subst h1; cases h2
      rw [upd_new] at hL; cases hL
      exact hb
  · exact absurd ho (by rw [hno.snoc xs e sz t b h1]; simp)
theorem exists_list {α : Type} {p : Nat → α → Prop} : ∀ n : Nat, (∀ i, i < n → ∃ r, p i r) → ∃ l : List α, l.length = n ∧ ∀ i r, l[i]? = some r → p i r
  | 0, _ => ⟨[], rfl, fun i r h => by simp at h⟩
  | n + 1, h => by
    obtain ⟨l, h1, h2⟩ := exists_list n fun i hi => h i (by omega)
    obtain ⟨r, hr⟩ := h n (by omega)
    refine ⟨l ++ [r], by simp [h1], fun i x hx => ?_⟩
    rcases Nat.lt_or_ge i l.length with hi | hi
    · rw [List.getElem?_append_left hi] at hx; exact h2 i x hx
    · rw [List.getElem?_append_right hi] at hx
      have : i = n := by
        rcases Nat.lt_or_ge (i - l.length) 1 with h' | h'
        · omega
        · rw [List.getElem?_eq_none (by simpa using h')] at hx; cases hx
      subst this
      rw [h1, Nat.sub_self] at hx
      cases hx; exact hr
/-- an argument that is a slice: its list, and the abstract heap with its block -/
theorem arg_slice {α : Type} {f : α → List Value} {s : Nat} (hs : ∀ x, (f x).length = s) (hs0 : 0 < s) (hf : ∀ x, (f x).all flat = true) {ρ : Rho} {H : Heap} {W : World} (h : HR ρ H W) (hno : noOwn H) {v : Value}
    (hv : v = .slice none 0 0 ∨ ∃ (a : Addr) (len cap : Nat), v = .slice (some a) len cap ∧ len ≤ cap ∧ cap ≤ maxLen ∧ ∀ i, i < cap → ∃ r : α, ∀ j c, (f r)[j]? = some c → W.cell? (a.add (i * s + j)) = some c) :
    ∃ (l : List α) (ρ' : Rho) (H' : Heap), l.length ≤ maxLen ∧ HR ρ' H' W ∧ noOwn H' ∧ ρ.le ρ' ∧ H'.length = H.length + 1 ∧ Sl f H' H.length l ∧ (∀ {β : Type} (g : β → List Value) t m, Sl g H t m → Sl g H' t m) ∧
      SV1 ρ' (.slice (some ⟨H.length, 0, none⟩) l.length 0) v := by
  rcases hv with rfl | ⟨a, len, cap, rfl, h1, h2, h3⟩
  · refine ⟨[], upd ρ H.length .virt, H ++ [some ⟨[], false, 0, s⟩], by simp, h.arg (L := .virt) hno (show BlkR _ _ _ .virt from rfl), hno.snoc _ _ _, upd_le h _, by simp, Sl.of (l := []) (xs := []) rfl, fun g t m hS => hS.app, ?_⟩
    exact ⟨rfl, .virt, none, 0, upd_new, rfl, by simp, by simp [maxLen], .inl ⟨rfl, fun _ _ _ h => by cases h⟩⟩
  · rcases Nat.eq_zero_or_pos cap with h0 | h0
    · have hl : len = 0 := by omega
      subst hl; subst h0
      refine ⟨[], upd ρ H.length .virt, H ++ [some ⟨[], false, 0, s⟩], by simp, h.arg (L := .virt) hno (show BlkR _ _ _ .virt from rfl), hno.snoc _ _ _, upd_le h _, by simp, Sl.of (l := []) (xs := []) rfl, fun g t m hS => hS.app, ?_⟩
      exact ⟨rfl, .virt, some a, 0, upd_new, rfl, by simp, by simp [maxLen], .inl ⟨rfl, fun _ _ _ h => by cases h⟩⟩
    · obtain ⟨l, hl, hat⟩ := exists_list len fun i hi => h3 i (by omega)
      have hsp : a.spot = none := by
        obtain ⟨r, hr⟩ := h3 0 h0
        have hc := hr 0 _ (List.getElem?_eq_getElem (by rw [hs]; exact hs0))
        rw [Nat.zero_mul, Nat.zero_add] at hc
        have : (a.add 0) = a := by simp [Addr.add]
        rw [this] at hc
        unfold World.cell? at hc
        split at hc
        · split at hc
          · cases hc
          · rename_i hn; simpa using hn
        · cases hc
      have hxl : (l.flatMap f).length = len * s := by rw [flatMap_length f s hs, hl]
      have hblk : BlkR (upd ρ H.length (.real a (cap * s) s)) ⟨l.flatMap f, false, 0, s⟩ W (.real a (cap * s) s) := by
        refine ⟨hsp, rfl, by simp only [hxl]; exact Nat.mul_le_mul_right s h1, fun j c hc => ?_, fun h => by cases h⟩
        simp only at hc
        have hj : j < len * s := by
          have := (List.getElem?_eq_some_iff.1 hc).1
          rwa [hxl] at this
        have hk : j / s < len := Nat.div_lt_of_lt_mul (by rw [Nat.mul_comm]; exact hj)
        have hm : j % s < s := Nat.mod_lt _ hs0
        have hjj : j = j / s * s + j % s := by rw [Nat.mul_comm, Nat.div_add_mod]
        have hlk : l[j / s]? = some (l[j / s]'(by omega)) := List.getElem?_eq_getElem (by omega)
        have hcells := flatMap_cells f s hs (l[j / s]'(by omega)) l (j / s) (by omega)
        have hget : (f (l[j / s]'(by omega)))[j % s]? = some c := by
          have e : (l.getD (j / s) (l[j / s]'(by omega))) = l[j / s]'(by omega) := by simp [List.getD, hlk]
          rw [e] at hcells
          rw [← hcells, List.getElem?_take, if_pos hm, List.getElem?_drop, ← hjj]
          exact hc
        have hcf : flat c = true := List.all_eq_true.1 (hf (l[j / s]'(by omega))) c (List.mem_of_getElem? hget)
        refine ⟨c, ?_, (CR_flat hcf).2 rfl⟩
        have := hat _ _ hlk _ _ hget
        rw [← hjj] at this
        exact this
      refine ⟨l, upd ρ H.length (.real a (cap * s) s), H ++ [some ⟨l.flatMap f, false, 0, s⟩], by omega, h.arg hno hblk, hno.snoc _ _ _, upd_le h _, by simp, Sl.of rfl, fun g t m hS => hS.app, ?_⟩
      refine ⟨rfl, _, some a, cap, upd_new, by rw [hl], by omega, h2, .inr ⟨a, cap * s, s, rfl, by simp [Addr.add], by simp⟩⟩

/-! ### The end -/
theorem AFunC.calls {P : Program} {f : FuncId} {vs : List Value} {H H' : Heap} {v : Value} (h : AFunC P f vs H v H') {ρ : Rho} {W : World} {args : Array Value} (hG : GL P W) (hh : HR ρ H W) (hno : noOwn H) (hl : L2 (SV1 ρ) vs args.toList) :
    Calls P f args W fun e W' => ∃ cv ρ', e = .returned cv ∧ SV ρ' v cv ∧ HR ρ' H' W' ∧ Below W.heap.size W W' := by
  refine Calls.mono (h.func ρ W args ⟨hh, hG, fun k _ ⟨t, b, A, cap, sz, g1, g2, _⟩ => by rw [hno t b g1] at g2; cases g2⟩ hl) ?_
  rintro e W' ⟨cv, ρ', rfl, h1, h2, h3⟩
  refine ⟨cv, ρ', rfl, h1, h2, h3.os, h3.tape, h3.output, h3.size, fun k hk => h3.old k hk ?_⟩
  rintro ⟨t, b, A, cap, sz, g1, g2, _⟩
  rw [hno t b g1] at g2; cases g2

section
variable {H : Type} {enc : TypeId × Value → H} {P : Program}
/-- the types of the parameters can be read and are rows of the table -/
def rowedAll (P : Program) (ts : List TypeId) : Bool := ts.all fun t => P.readableRec t && decide (t < P.types.size)
theorem trodAll_below (hl : laidOutB P = true) {W W' : World} (hb : Below W.heap.size W W') : ∀ {ts : List TypeId} {vs : List Value} {ds : List (DataW H)} {ps : List MemPlace}, rowedAll P ts = true →
    DataW.TrodAll enc P W 0 (fun _ => true) true ts vs ds ps → (∀ x ∈ ps, x.block < W.heap.size) → DataW.TrodAll enc P W' 0 (fun b => decide (b < W.heap.size)) true ts vs ds ps
  | [], vs, ds, ps, _, h, _ => by obtain ⟨rfl, rfl, rfl⟩ := trodAll_nil h; exact trodAll_mk0
  | t :: ts, vs, ds, ps, hr, h, hp => by
    obtain ⟨v, vs', d, ds', p, q, rfl, rfl, rfl, h1, h2⟩ := trodAll_cons h
    simp only [rowedAll, List.all_cons, Bool.and_eq_true, decide_eq_true_eq] at hr
    exact trodAll_cons_mk (Below.trod hl hr.1.1 hr.1.2 h1 hb fun x hx => hp x (by simp [hx])) (trodAll_below hl hb hr.2 h2 fun x hx => hp x (by simp [hx]))
/-- a law that returns true, and whose input reads as it did -/
theorem post_true {f : Func} {s : ChangeSpec} {W W' : World} {args : Array Value} {ds gs : List (DataW H)} {before : List MemPlace} {tb : TypeId} (hl : laidOutB P = true) (hr : rowedAll P f.params.toList = true)
    (hW : DataW.Whole enc P f.params.toList s.vars false W args.toList ds gs before) (hv : s.vars = []) (hs : s.fn H ds = { results := [.lit (.bool true)], args := ds }) (ht : f.resultTypes = #[tb]) (hb : P.underlying tb = some .bool)
    (hbe : Below W.heap.size W W') : s.post enc P f false true false false W args (.bool true) W' := by
  have hW' := hW
  have hlt : ∀ x ∈ before, x.block < W.heap.size := fun x hx => by simpa using hW'.lt x hx
  obtain ⟨p, q, h1, h2, rfl, h3, h4⟩ := hW
  rw [hv] at h2
  obtain ⟨rfl, rfl⟩ := trodVars_none h2
  have hs' : s.fn H (ds ++ []) = { results := [.lit (.bool true)], args := ds } := by rw [List.append_nil]; exact hs
  refine ⟨ds, [], p ++ [], [], p, [], hW', ?_, ?_, ?_, hbe.frame _, fun h => by cases h⟩
  · rw [hs', ht]
    exact trodAll_cons_mk (shut_bool hb _) trodAll_mk0
  · rw [hs']
    exact trodAll_below hl hbe hr h1 fun x hx => hlt x (by simp [hx])
  · rw [hs', hv]
    exact rfl
end
end Go.Am
