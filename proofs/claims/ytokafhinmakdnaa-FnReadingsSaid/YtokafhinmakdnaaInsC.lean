/- slices.Insert at a struct's elements: its two roads in the midst of a list, as they run. -/
import Derived.Test.YtokafhinmakdnaaAm15
import Derived.Test.YtokafhinmakdnaaFacts
import Derived.WalkKit
import Derived.Shelf.RegionOpenPlain
import Derived.WalkSpells
import Derived.Lib.Walk
import Derived.Lib.SliceRun
import Derived.Lib.AppendZeros
import Derived.Lib.AppendZerosOnto
import Derived.Lib.Overlaps
import Derived.Laws.Externs
import Derived.Laws.CopyRow
import Derived.Laws.NewBlocks
namespace Go.Proofs.Ytokafhinmakdnaa
open Go.Am Go.Lib Go.RowKit
set_option linter.unusedVariables false
set_option linter.unusedSimpArgs false
set_option maxRecDepth 100000
set_option maxHeartbeats 4000000

/-- copy, elements of s cells, onto a row -/
theorem run_copy_rowN {P : Program} (w : World) (dT sT ty elem : TypeId) (g o dLen dCap : Nat) (a : Addr) (sLen sCap s : Nat) (cur : Array Value) (t : TypeId) (cs : List Value)
    (hu : P.underlying dT = some (.slice elem)) (hs : ∀ w, (Go.sizeOf elem).run P w = .ok s w)
    (hg : w.heap[g]? = some (.cells cur t (0, 0))) (hn : cs.length = Nat.min sLen dLen * s)
    (hsrc : ∀ j v, cs[j]? = some v → w.cell? (a.add j) = some v) (hfit : o + cs.length ≤ cur.size) (h1 : ∀ v ∈ cs, v.oneCell' = true) :
    (Builtin.copy_ #[dT, sT] ty #[.slice (some ⟨g, o, none⟩) dLen dCap, .slice (some a) sLen sCap]).run P w =
      .ok (goInt (Nat.min sLen dLen : Nat)) (w.setRow g (cur.toList.take o ++ cs ++ cur.toList.drop (o + cs.length)).toArray) := by
  have hl := run_loadCells_list (P := P) w a cs hsrc
  have hst := run_storeCells_at P g o t cs 0 cur w hg (by simpa using hfit) h1
  rw [hn] at hl
  simp [Builtin.copy_, run_underlying hu, Builtin.lenOf, Builtin.firstCells, hs, hl, hst]
theorem wp_copy_runJ {P : Program} (w : World) {o : Oper} {a : Act} {K : Act → World → Prop} {Q : Exit → Act → World → Prop} (d s : Operand) (t t' : TypeId)
    (ho : o.op = .call { callee := .builtin .copy, args := #[d, s], argTypes := #[t, t'] }) (v u : Value) (hd : a.eval d = v) (hs : a.eval s = u) {v' : Value} {w' : World}
    (hr : (Builtin.copy_ #[t, t'] o.type #[v, u]).run P w = .ok v' w') (h : K (a.put o.dst v') w') : o.wp P a w K Q := by
  unfold Oper.wp execOp
  simp only [ho, resolve, invoke, builtin, Sem.run_bind, Sem.run_pure, Result.andThen_ok, List.map_toArray, List.map_cons, List.map_nil, hd, hs, hr]
  exact h
theorem wpList_copy_runJ {P : Program} (w : World) {ops : Array Oper} {rest : List Oper} {o : Oper} {a : Act} {Q : Exit → Act → World → Prop} (hgd : o.guard = none) (d s : Operand) (t t' : TypeId)
    (ho : o.op = .call { callee := .builtin .copy, args := #[d, s], argTypes := #[t, t'] }) (v u : Value) (hd : a.eval d = v) (hs : a.eval s = u) {v' : Value} {w' : World}
    (hr : (Builtin.copy_ #[t, t'] o.type #[v, u]).run P w = .ok v' w') (h : wpList P ops Q rest (a.put o.dst v') w') : wpList P ops Q (o :: rest) a w :=
  wpList_plain hgd fun _ hK => wp_copy_runJ w d s t t' ho v u hd hs hr (hK _ _ h)
theorem step_copy_runJ {P : Program} {ops : Array Oper} {o : Oper} {a : Act} {w : World} {K : Act → World → Prop} {Q : Exit → Act → World → Prop} {E : Prop}
    (hg : o.guard = none) (d x : Operand) (dT sT : TypeId) (hop : o.op = Op.call { callee := Callee.builtin Builtin.copy, args := #[d, x], argTypes := #[dT, sT] })
    (v u : Value) (hd : a.eval d = v) (hx : a.eval x = u) {v' : Value} {w' : World} (hr : (Builtin.copy_ #[dT, sT] o.type #[v, u]).run P w = .ok v' w') (hK : K (a.put o.dst v') w') :
    if Region.wanted o (yielded ops a.tmps) = true then Oper.wp P o a w K Q else E := by
  have hw : Region.wanted o (yielded ops a.tmps) = true := by simp [Region.wanted, hg]
  rw [if_pos hw]
  unfold Oper.wp
  simp [execOp, hop, resolve, invoke, builtin, hd, hx, hr, Result.andThen]
  exact hK
/-- slices.Insert: one element, i < len(s), there is room -/
theorem ins_shift_C (b off n c i vb vo vc : Nat) (vs : List Value) (w : World) (cur : Array Value) (hi : i < n) (hroom : n + 1 ≤ c) (hc63 : c ≤ 9223372036854775807) (hvb : vb ≠ b)
    (hg : w.heap[b]? = some (.cells cur 74 (0, 0))) (hfit : off + (n + 1) * 4 ≤ cur.size) (hvl : vs.length = 4)
    (h1 : ∀ v ∈ (cur.toList.drop (off + i * 4)).take ((n - i) * 4), v.oneCell' = true)
    (hvs : ∀ j v, vs[j]? = some v → w.cell? ⟨vb, vo + j, none⟩ = some v) (h1v : ∀ v ∈ vs, v.oneCell' = true)
    (kA : Nat) (hsa : w.shape? vb = some (74, kA)) (hfa : w.frozen? ⟨vb, vo, none⟩ = false) (hfe : w.frozen? ⟨vb, kA, none⟩ = false) :
    Calls Try.prog 80 #[.slice (some ⟨b, off, none⟩) n c, .int .i64 i, .slice (some ⟨vb, vo, none⟩) 1 vc] w fun e w' =>
      e = .returned (.slice (some ⟨b, off, none⟩) (n + 1) c) ∧
      w' = w.drew.setRow b (cur.toList.take (off + i * 4) ++ vs ++ ((cur.toList.drop (off + i * 4)).take ((n - i) * 4)) ++ cur.toList.drop (off + (n + 1) * 4)).toArray := by
  have u3 := run_underlying Try.underlying3
  have hz2 : ¬ ((i : Int) = (n : Int)) := by omega
  have hov : ∀ lb cb, (callFunc 87 #[.slice (some ⟨vb, vo, none⟩) 1 vc, .slice (some ⟨b, off + (i + 1) * 4, none⟩) lb cb]).run Try.prog w = .ok (.value (.bool false)) w := fun lb cb => by
    rw [run_callFunc_extern Try.func87 (by kernel_rfl) (by kernel_rfl) (by kernel_rfl) (e := Extern.SlicesOverlaps.overlaps #[28, 28] #[4]) (by kernel_rfl),
      Lib.run_overlaps_apart w 28 4 74 Try.underlying28 4 Try.sizeOf74 ⟨vb, vo, none⟩ ⟨b, off + (i + 1) * 4, none⟩ 1 vc lb cb hvb 74 74 kA cur.size hsa (by simp [World.shape?, hg]) (by omega) hfa hfe]
    rfl
  have hw1 : IntKind.i64.wrap ((i : Int) + 1) = (i : Int) + 1 := by rw [IntKind.wrap_i64]; omega
  have hb1 : (0 : Int) ≤ (i : Int) + 1 := by omega
  have hin : i ≤ n := by omega
  have htn : ((i : Int) + 1).toNat = i + 1 := by omega
  have hb2 : ¬ (c = i + 1) := by omega
  have hb3 : (i : Int) ≤ (n : Int) + 1 := by omega
  have hb4 : ¬ (c = i) := by omega
  have hcl : cur.toList.length = cur.size := rfl
  obtain ⟨D, hD⟩ : ∃ D, D = off + i * 4 := ⟨_, rfl⟩
  have hD2 : D + (n - i) * 4 + 4 = off + (n + 1) * 4 := by rw [Nat.sub_mul]; omega
  obtain ⟨cs, hcs⟩ : ∃ cs, cs = (cur.toList.drop D).take ((n - i) * 4) := ⟨_, rfl⟩
  have hcsl : cs.length = (n - i) * 4 := by rw [hcs, List.length_take, List.length_drop, hcl]; omega
  obtain ⟨cur1, hcur1⟩ : ∃ cur1 : Array Value, cur1 = (cur.toList.take (D + 4) ++ cs ++ cur.toList.drop (D + 4 + cs.length)).toArray := ⟨_, rfl⟩
  have hcs1 : cur1.size = cur.size := by
    rw [hcur1]
    simp only [List.size_toArray, List.length_append, List.length_take, List.length_drop, hcl]
    omega
  have hgd : w.drew.heap[b]? = some (.cells cur 74 (0, 0)) := hg
  have hcp1 : ∀ ty dc sc, (Builtin.copy_ #[28, 28] ty #[.slice (some ⟨b, off + (i + 1) * 4, none⟩) (n - i) dc, .slice (some ⟨b, off + i * 4, none⟩) (n + 1 - i) sc]).run Try.prog w.drew = .ok (goInt (Nat.min (n + 1 - i) (n - i) : Nat)) (w.drew.setRow b cur1) := fun ty dc sc => by
    rw [show off + (i + 1) * 4 = D + 4 by omega, ← hD, hcur1]
    exact run_copy_rowN w.drew _ _ ty _ b (D + 4) _ _ ⟨b, D, none⟩ _ _ 4 cur _ cs Try.underlying28 Try.sizeOf74 hgd (by rw [hcsl]; congr 1; simp only [Nat.min_def]; split <;> omega)
      (fun j v hj => by
        rw [addr_addo, cell_of_row _ b (D + j) cur _ (0, 0) hgd]
        rw [hcs, List.getElem?_take] at hj
        split at hj
        · rw [List.getElem?_drop] at hj; simpa using hj
        · cases hj)
      (by omega) (fun v hv => h1 v (by rw [← hD, ← hcs]; exact hv))
  obtain ⟨W1, hW1⟩ : ∃ W1, W1 = w.drew.setRow b cur1 := ⟨_, rfl⟩
  have hg1 : W1.heap[b]? = some (.cells cur1 74 (0, 0)) := by rw [hW1]; exact setRow_heap w.drew b cur cur1 _ (0, 0) hgd
  have hcp2 : ∀ (W : World), W.heap = W1.heap → ∀ ty dc, (Builtin.copy_ #[28, 28] ty #[.slice (some ⟨b, off + i * 4, none⟩) (n + 1 - i) dc, .slice (some ⟨vb, vo, none⟩) 1 vc]).run Try.prog W = .ok (goInt (Nat.min 1 (n + 1 - i) : Nat)) (W.setRow b (cur1.toList.take D ++ vs ++ cur1.toList.drop (D + vs.length)).toArray) := fun W hW ty dc => by
    rw [← hD]
    exact run_copy_rowN W _ _ ty _ b D _ _ ⟨vb, vo, none⟩ _ _ 4 cur1 _ vs Try.underlying28 Try.sizeOf74 (by rw [hW]; exact hg1) (by rw [hvl]; simp only [Nat.min_def]; split <;> omega)
      (fun j v hj => by
        have := hvs j v hj
        rw [addr_addo]
        unfold World.cell? at this ⊢
        rw [hW, hW1, setRow_other w.drew b vb _ hvb]
        exact this)
      (by omega) h1v
  have hfin : W1.setRow b (cur1.toList.take D ++ vs ++ cur1.toList.drop (D + vs.length)).toArray = w.drew.setRow b (cur.toList.take (off + i * 4) ++ vs ++ ((cur.toList.drop (off + i * 4)).take ((n - i) * 4)) ++ cur.toList.drop (off + (n + 1) * 4)).toArray := by
    rw [hW1, setRow_setRow, ← hD, ← hcs, hvl]
    congr 2
    rw [hcur1]
    simp only [List.append_assoc]
    rw [List.take_append_of_le_length (by rw [List.length_take, hcl]; omega), List.take_take, Nat.min_eq_left (by omega)]
    rw [List.drop_append, List.length_take, hcl, Nat.min_eq_left (by omega), Nat.sub_self, List.drop_zero, List.drop_of_length_le (by rw [List.length_take, hcl]; omega), List.nil_append, hcsl]
    rw [show D + 4 + (n - i) * 4 = off + (n + 1) * 4 by omega]
  rw [← hW1] at hcp1
  have mixed : Try.prog.follows .mixedOrders = true := by kernel_rfl
  clear hD hD2 hcs hcsl hcur1 hcs1 hgd hcl
  go_enter Try.func80, Try.ntmps80
  go_wp2_with (simp only [hov])
  go_region_law_o (refine step_copy_runJ rfl _ _ 28 28 rfl _ _ (by simp [Act.eval, Act.put]) (by simp [Act.eval, Act.put]) (hcp1 _ _ _) ?_)
  go_wp2_with (at_builtin; refine wpList_copy_runJ _ rfl _ _ 28 28 rfl _ _ rfl rfl (hcp2 _ rfl _ _) ?_)
  go_ret
  rw [hW1, hvl, List.append_assoc] at hfin
  exact ⟨rfl, hfin⟩
/-- slices.Insert: one element, i < len(s), there is no room -/
theorem ins_grow_C (b off n c i vb vo vc : Nat) (vs : List Value) (w : World) (cur : Array Value) (hi : i < n) (hnc : n ≤ c) (hroom : c < n + 1) (hbig : n ≤ 1000000000) 
    (hg : w.heap[b]? = some (.cells cur 74 (0, 0))) (hfit : off + n * 4 ≤ cur.size) (hvl : vs.length = 4) (hvb : vb < w.heap.size)
    (h1 : ∀ v ∈ (cur.toList.drop (off + i * 4)).take ((n - i) * 4), v.oneCell' = true)
    (hvs : ∀ j v, vs[j]? = some v → w.cell? ⟨vb, vo + j, none⟩ = some v) (h1v : ∀ v ∈ vs, v.oneCell' = true) :
    Calls Try.prog 80 #[.slice (some ⟨b, off, none⟩) n c, .int .i64 i, .slice (some ⟨vb, vo, none⟩) 1 vc] w fun e w' => ∃ (G : Nat) (row0 row1 row : Array Value),
      e = .returned (.slice (some ⟨w.heap.size, 0, none⟩) (n + 1) G) ∧ n + 1 ≤ G ∧ G ≤ maxLen ∧ row.size = G * 4 ∧
      row.toList.take ((n + 1) * 4) = (cur.toList.drop off).take (i * 4) ++ vs ++ (cur.toList.drop (off + i * 4)).take ((n - i) * 4) ∧
      w' = (((w.alloc (.cells row0 74)).drew.setRow w.heap.size row1).drew.setRow w.heap.size row) := by
  have u3 := run_underlying Try.underlying3
  have hcl : cur.toList.length = cur.size := rfl
  have hbw : b < w.heap.size := (Array.getElem?_eq_some_iff.1 hg).1
  obtain ⟨i0, z, ht, hi0, hz0, hsz, hby, hzs, hpos⟩ := appT_spec (show appT Try.prog 28 = some (74, 4, 32) by kernel_rfl)
  have hz2 : ¬ ((i : Int) = (n : Int)) := by omega
  have hz3 : (c : Int) < (n : Int) + 1 := by omega
  have hkk : (n : Int) + 1 - (i : Int) = ((n + 1 - i : Nat) : Int) := by omega
  have hik : i + (n + 1 - i) = n + 1 := by omega
  obtain ⟨olds, holds⟩ : ∃ olds, olds = (cur.toList.drop off).take (i * 4) := ⟨_, rfl⟩
  have holl : olds.length = i * 4 := by rw [holds, List.length_take, List.length_drop, hcl]; omega
  obtain ⟨rest, hrest⟩ : ∃ rest, rest = (cur.toList.drop (off + i * 4)).take ((n - i) * 4) := ⟨_, rfl⟩
  have hrl : rest.length = (n - i) * 4 := by rw [hrest, List.length_take, List.length_drop, hcl]; rw [Nat.sub_mul]; omega
  have hcell : ∀ j v, cur.toList[j]? = some v → w.cell? ⟨b, j, none⟩ = some v := fun j v hj => by
    rw [cell_of_row _ b j cur _ (0, 0) hg]
    simpa using hj
  have hold : (Builtin.firstCells i0.size i (.slice (some ⟨b, off, none⟩) i c)).run Try.prog w.drew = .ok olds.toArray w.drew := by
    rw [hsz]
    exact run_firstCells_some w.drew 4 i ⟨b, off, none⟩ i c olds holl (fun j v hj => by
      rw [addr_addo]
      rw [holds, List.getElem?_take] at hj
      split at hj
      · rw [List.getElem?_drop] at hj; exact hcell _ v hj
      · cases hj)
  obtain ⟨G, hG⟩ : ∃ G, G = grownCap w (n + 1) c 74 := ⟨_, rfl⟩
  obtain ⟨ROW, hROW⟩ : ∃ ROW : Array Value, ROW = olds.toArray ++ Builtin.zeroCells z.cells (n + 1 - i) ++ Builtin.zeroCells z.cells (G - (n + 1)) := ⟨_, rfl⟩
  have hGn : n + 1 ≤ G := by rw [hG]; exact grownCap_ge w _ _ _
  have hGm : G ≤ maxLen := by rw [hG]; exact grownCap_le_maxLen w (n + 1) c _ (by unfold maxLen; omega)
  have hrz : ∀ ty, (Builtin.append_ #[28, 3] ty #[.slice (some ⟨b, off, none⟩) i c, .int .i64 ((n : Int) + 1 - (i : Int))]).run Try.prog w =
      .ok (.slice (some ⟨w.heap.size, 0, none⟩) (n + 1) G) (w.drew.alloc (.cells ROW 74)) := fun ty => by
    have h := Lib.run_append_grow_zeros w 28 3 ty 74 i0 _ .i64 .i64 ht Try.underlying3 hi0 hz0 (some ⟨b, off, none⟩) i c olds hold (n + 1 - i) (by omega) (by omega) (by omega) (by omega) (by rw [hby]; omega) (by rw [hby, hik]; exact growslice_fits hroom (by omega))
    rw [hik] at h
    rw [hkk, hROW, hG]
    exact h
  have hRs : ROW.size = G * 4 := by
    rw [hROW]
    simp only [Array.size_append, List.size_toArray, size_zeroCells, holl, hzs, hsz]
    omega
  have hRt : ROW.toList.take (i * 4) = olds := by
    rw [hROW]
    simp only [Array.toList_append, List.append_assoc]
    rw [← holl]
    exact List.take_left
  obtain ⟨W1, hW1⟩ : ∃ W1, W1 = w.drew.alloc (.cells ROW 74) := ⟨_, rfl⟩
  have hN : W1.heap[w.heap.size]? = some (.cells ROW 74 (0, 0)) := by rw [hW1]; exact alloc_new w.drew _
  have hOld : ∀ k, k < w.heap.size → W1.heap[k]? = w.heap[k]? := fun k hk => by rw [hW1]; exact alloc_old w.drew _ k hk
  obtain ⟨row1, hrow1⟩ : ∃ row1 : Array Value, row1 = (ROW.toList.take (i * 4) ++ vs ++ ROW.toList.drop (i * 4 + vs.length)).toArray := ⟨_, rfl⟩
  have hRcl : ROW.toList.length = ROW.size := rfl
  have hGi : (n + 1) * 4 ≤ G * 4 := Nat.mul_le_mul_right _ hGn
  have hni : (n - i) * 4 + i * 4 = n * 4 := by rw [← Nat.add_mul]; congr 1; omega
  have hs1 : row1.size = G * 4 := by
    rw [hrow1]
    simp only [List.size_toArray, List.length_append, List.length_take, List.length_drop, hRcl, hvl, hRs]
    omega
  have hcpA : ∀ (W : World), W.heap = W1.heap → ∀ ty dc, (Builtin.copy_ #[28, 28] ty #[.slice (some ⟨w.heap.size, i * 4, none⟩) (n + 1 - i) dc, .slice (some ⟨vb, vo, none⟩) 1 vc]).run Try.prog W = .ok (goInt (Nat.min 1 (n + 1 - i) : Nat)) (W.setRow w.heap.size row1) := fun W hW ty dc => by
    rw [hrow1]
    exact run_copy_rowN W _ _ ty _ w.heap.size (i * 4) _ _ ⟨vb, vo, none⟩ _ _ 4 ROW _ vs Try.underlying28 Try.sizeOf74 (by rw [hW]; exact hN) (by rw [hvl]; simp only [Nat.min_def]; split <;> omega)
      (fun j v hj => by
        have := hvs j v hj
        rw [addr_addo]
        unfold World.cell? at this ⊢
        rw [hW, hOld vb hvb]
        exact this)
      (by omega) h1v
  obtain ⟨row, hrow⟩ : ∃ row : Array Value, row = (row1.toList.take ((i + 1) * 4) ++ rest ++ row1.toList.drop ((i + 1) * 4 + rest.length)).toArray := ⟨_, rfl⟩
  have hr1l : row1.toList.length = row1.size := rfl
  have hs2 : row.size = G * 4 := by
    rw [hrow]
    simp only [List.size_toArray, List.length_append, List.length_take, List.length_drop, hr1l, hs1, hrl]
    omega
  have hcpB : ∀ (W : World), W.heap = (W1.setRow w.heap.size row1).heap → ∀ ty dc sc, (Builtin.copy_ #[28, 28] ty #[.slice (some ⟨w.heap.size, (i + 1) * 4, none⟩) (n - i) dc, .slice (some ⟨b, off + i * 4, none⟩) (n - i) sc]).run Try.prog W = .ok (goInt (Nat.min (n - i) (n - i) : Nat)) (W.setRow w.heap.size row) := fun W hW ty dc sc => by
    rw [hrow]
    exact run_copy_rowN W _ _ ty _ w.heap.size ((i + 1) * 4) _ _ ⟨b, off + i * 4, none⟩ _ _ 4 row1 _ rest Try.underlying28 Try.sizeOf74 (by rw [hW]; exact setRow_heap W1 w.heap.size ROW row1 _ (0, 0) hN) (by rw [hrl]; congr 1; simp)
      (fun j v hj => by
        rw [addr_addo]
        rw [hrest, List.getElem?_take] at hj
        split at hj
        · rw [List.getElem?_drop] at hj
          have := hcell _ v hj
          unfold World.cell? at this ⊢
          rw [hW, setRow_other W1 w.heap.size b _ (by omega), hOld b hbw]
          exact this
        · cases hj)
      (by omega) (fun v hv => h1 v (by rw [← hrest]; exact hv))
  have hfin : row.toList.take ((n + 1) * 4) = olds ++ vs ++ rest := by
    have e1 : row1.toList.take ((i + 1) * 4) = olds ++ vs := by
      rw [hrow1, hRt]
      simp only [List.append_assoc]
      rw [← List.append_assoc, show (i + 1) * 4 = (olds ++ vs).length by rw [List.length_append, holl, hvl]; omega]
      exact List.take_left
    rw [hrow, e1]
    simp only
    rw [show (n + 1) * 4 = (olds ++ vs ++ rest).length by simp only [List.length_append, holl, hvl, hrl]; omega]
    exact List.take_left
  have hb1 : (0 : Int) ≤ (i : Int) + 1 := by omega
  have hin : i ≤ n := by omega
  have htn : ((i : Int) + 1).toNat = i + 1 := by omega
  have hb3 : (i : Int) ≤ (n : Int) := by omega
  have hG63 : G ≤ 9223372036854775807 := by unfold maxLen at hGm; omega
  have hGi2 : ¬ (G = i) := by omega
  have hGim : ¬ (G = i + 1) := by omega
  have hci : ¬ (c = i) := by omega
  have hw1 : IntKind.i64.wrap ((i : Int) + 1) = (i : Int) + 1 := by rw [IntKind.wrap_i64]; omega
  have mixed : Try.prog.follows .mixedOrders = true := by kernel_rfl
  subst hW1
  have hcpA2 := hcpA ((w.alloc (.cells ROW 74)).drew) rfl
  have hcpB2 := hcpB ((((w.alloc (.cells ROW 74)).drew.setRow w.heap.size row1)).drew) rfl
  clear hkk hik hold hROW hG hRs hRt hGi hni hs1 hcl hRcl hr1l
  rw [← holds, ← hrest]
  clear holds hrest hrow hrow1
  go_enter Try.func80, Try.ntmps80
  go_wp2_with (at_builtin; refine Lib.wpList_append_run _ rfl _ _ _ _ rfl _ _ rfl rfl _ _ (hrz _) ?_)
  go_region_law_o (refine step_copy_runJ rfl _ _ 28 28 rfl _ _ (by simp [Act.eval, Act.put]) (by simp [Act.eval, Act.put]) (hcpB2 _ _ _) ?_)
  go_wp2
  go_ret
  exact ⟨G, ROW, row1, row, rfl, hGn, hGm, hs2, hfin, rfl⟩
end Go.Proofs.Ytokafhinmakdnaa
