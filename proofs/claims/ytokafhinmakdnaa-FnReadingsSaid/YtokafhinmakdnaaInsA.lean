/- slices.Insert at a struct's elements: its contract. -/
import Derived.Test.YtokafhinmakdnaaInsC
namespace Go.Proofs.Ytokafhinmakdnaa
open Go.Am Go.Lib Go.RowKit
set_option linter.unusedVariables false
set_option linter.unusedSimpArgs false
set_option maxRecDepth 100000
set_option maxHeartbeats 4000000
theorem flat_one {l : List Value} (h : l.all flat = true) : ∀ v ∈ l, v.oneCell' = true := fun v hv => by
  have := List.all_eq_true.1 h v hv
  cases v with
  | pointer a => cases a <;> simp_all [flat, Value.oneCell']
  | slice a n c => cases a <;> simp_all [flat, Value.oneCell']
  | _ => simp_all [flat, Value.oneCell']
/-- a block of flat cells, as it lies -/
theorem own_row {ρ : Rho} {H : Heap} {w : World} (hh : HR ρ H w) {t : Nat} {xs : List Value} {e s : Nat} {A : Addr} {cap sz : Nat} (hb : H.get t = some ⟨xs, true, e, s⟩) (hA : ρ t = some (.real A cap sz)) (hf : xs.all flat = true) :
    ∃ cur : Array Value, A = ⟨A.block, A.off, none⟩ ∧ w.heap[A.block]? = some (.cells cur e (0, 0)) ∧ cur.size = A.off + cap ∧ sz = s ∧ xs.length ≤ cap ∧ xs = (cur.toList.drop A.off).take xs.length := by
  obtain ⟨cur, h1, h2, h3, h4, h5, h6⟩ := blk_cells hh hb rfl hA
  exact ⟨cur, h1, h2, h3, h4, h5, ((L2_flat hf).1 h6).symm⟩
theorem insNew_flat {bx vx : List Value} (i m : Nat) (hf : bx.all flat = true) (hvf : vx.all flat = true) : (bx.take (i * 4) ++ vx ++ (bx.drop (i * 4)).take m).all flat = true := by
  rw [List.all_eq_true] at *
  intro x hx
  simp only [List.mem_append] at hx
  rcases hx with (hx | hx) | hx
  · exact hf x (List.mem_of_mem_take hx)
  · exact hvf x hx
  · exact hf x (List.mem_of_mem_drop (List.mem_of_mem_take hx))
theorem insert_A {H : Heap} {tg tv i n c vc : Nat} {bx vx : List Value} (hn : n ≤ 1000000000) (hi : i < n)
    (hb : H.get tg = some ⟨bx, true, 74, 4⟩) (hfit : n * 4 ≤ bx.length) (hf : bx.all flat = true)
    (hv : H.get tv = some ⟨vx, true, 74, 4⟩) (hvl : vx.length = 4) (hvf : vx.all flat = true) (hne : tv ≠ tg) :
    AFunC Try.prog 80 [.slice (some ⟨tg, 0, none⟩) n c, .int .i64 i, .slice (some ⟨tv, 0, none⟩) 1 vc] H
      (.slice (some ⟨H.length, 0, none⟩) (n + 1) (n + 1)) (H.set tg none ++ [some ⟨bx.take (i * 4) ++ vx ++ (bx.drop (i * 4)).take ((n - i) * 4), true, 74, 4⟩]) := by
  refine ⟨⟨_, Try.func80, by kernel_rfl, rfl⟩, ?_⟩
  intro ρ w cargs hh hl
  obtain ⟨cl⟩ := cargs
  match cl, hl with
  | [c0, c1, c2], ⟨s0, s1, s2, _⟩ =>
  have s1' : c1 = .int .i64 i := (CR_flat (ρ := ρ) (v := .int .i64 i) (cv := c1) rfl).1 s1
  subst s1'
  obtain ⟨_, L, A', c', hL, rfl, hnc, hcm, hor⟩ := (show SlR ρ ⟨tg, 0, none⟩ n c0 from s0)
  obtain ⟨_, Lv, Av', cv', hLv, rfl, hnv, hcmv, horv⟩ := (show SlR ρ ⟨tv, 0, none⟩ 1 c2 from s2)
  simp only at hL hLv
  rcases hor with ⟨h0, _⟩ | ⟨A, cap, sz, rfl, rfl, hcap⟩
  · omega
  rcases horv with ⟨h0, _⟩ | ⟨Av, capv, szv, rfl, rfl, hcapv⟩
  · omega
  obtain ⟨cur, a1, a2, a3, a4, a5, a6⟩ := own_row hh.toHR hb hL hf
  obtain ⟨curv, b1, b2, b3, b4, b5, b6⟩ := own_row hh.toHR hv hLv hvf
  subst a4
  subst b4
  have hfar : Av.block ≠ A.block := hh.far tv tg _ _ Av capv 4 A cap 4 hne hv hb rfl (.inl rfl) hLv hL
  have nf := insNew_flat i ((n - i) * 4) hf hvf
  have nl : (bx.take (i * 4) ++ vx ++ (bx.drop (i * 4)).take ((n - i) * 4)).length = (n + 1) * 4 := by
    simp only [List.length_append, List.length_take, List.length_drop, hvl]
    omega
  generalize hnew : bx.take (i * 4) ++ vx ++ (bx.drop (i * 4)).take ((n - i) * 4) = nx at nf nl ⊢
  have e1 : (cur.toList.drop A.off).take (i * 4) = bx.take (i * 4) := by
    rw [a6, List.take_take, Nat.min_eq_left (by omega)]
  have e2 : (cur.toList.drop (A.off + i * 4)).take ((n - i) * 4) = (bx.drop (i * 4)).take ((n - i) * 4) := by
    rw [a6, List.drop_take, List.take_take, List.drop_drop, Nat.min_eq_left (by omega)]
  have hvs : ∀ j v, vx[j]? = some v → w.cell? ⟨Av.block, Av.off + j, none⟩ = some v := fun j v hj => by
    rw [cell_of_row _ Av.block (Av.off + j) curv _ (0, 0) b2]
    rw [b6, List.getElem?_take] at hj
    split at hj
    · rw [List.getElem?_drop] at hj; simpa using hj
    · cases hj
  have hvw : Av.block < w.heap.size := (Array.getElem?_eq_some_iff.1 b2).1
  have hcl : cur.toList.length = cur.size := rfl
  simp only [Addr.add_zero'] at hcap ⊢
  rw [a1, b1]
  by_cases hroom : n + 1 ≤ c'
  · have hroom4 : (n + 1) * 4 ≤ c' * 4 := Nat.mul_le_mul_right _ hroom
    refine Calls.mono (ins_shift_C A.block A.off n c' i Av.block Av.off cv' vx w cur hi hroom (by unfold maxLen at hcm; omega) hfar a2 (by omega) hvl (by rw [e2]; exact fun v hv => flat_one hf v (List.mem_of_mem_drop (List.mem_of_mem_take hv))) hvs (flat_one hvf) curv.size (by simp [World.shape?, b2]) (by simp [World.frozen?, b2]) (by simp [World.frozen?, b2])) ?_
    rintro e w' ⟨rfl, rfl⟩
    have e3 : cur.toList.take (A.off + i * 4) = cur.toList.take A.off ++ bx.take (i * 4) := by rw [List.take_add, e1]
    rw [e2, e3]
    have e4 : cur.toList.take A.off ++ bx.take (i * 4) ++ vx ++ (bx.drop (i * 4)).take ((n - i) * 4) ++ cur.toList.drop (A.off + (n + 1) * 4) = cur.toList.take A.off ++ nx ++ cur.toList.drop (A.off + (n + 1) * 4) := by
      rw [← hnew]; simp only [List.append_assoc]
    rw [e4]
    have tl : (cur.toList.take A.off).length = A.off := by rw [List.length_take, hcl]; omega
    obtain ⟨row, hrow⟩ : ∃ row : Array Value, row = (cur.toList.take A.off ++ nx ++ cur.toList.drop (A.off + (n + 1) * 4)).toArray := ⟨_, rfl⟩
    have rl : row.size = A.off + cap := by
      rw [hrow]
      simp only [List.size_toArray, List.length_append, tl, nl, List.length_drop, hcl]
      omega
    have rg : ∀ j v, nx[j]? = some v → row[A.off + j]? = some v := fun j v hj => by
      have hjl : j < nx.length := (List.getElem?_eq_some_iff.1 hj).1
      rw [hrow]
      simp only [List.getElem?_toArray, List.append_assoc]
      rw [List.getElem?_append_right (by omega), tl, show A.off + j - A.off = j by omega, List.getElem?_append_left hjl]
      exact hj
    rw [← hrow]
    have hgd : w.drew.heap[A.block]? = some (.cells cur 74 (0, 0)) := a2
    have hnewrow := setRow_heap w.drew A.block cur row _ (0, 0) hgd
    obtain ⟨g1, g2⟩ := regrow_sound hh.toHR hb rfl hL (w' := w.drew.setRow A.block row) rfl rfl rfl (by simp) (fun k hk hne => setRow_other w.drew A.block k _ (hne A cap 4 rfl)) (b' := ⟨nx, true, 74, 4⟩) (L := .real A cap 4) rfl
      (by
        refine ⟨by rw [a1], rfl, by simp only [nl]; omega, fun j v hv => ⟨v, ?_, (CR_flat (List.all_eq_true.1 nf v (List.mem_of_getElem? hv))).2 rfl⟩, fun _ => ⟨row, hnewrow, rl⟩⟩
        rw [a1, addr_addo, cell_of_row _ A.block (A.off + j) row _ (0, 0) hnewrow]
        exact rg j v hv)
      (by rintro A1 cap1 sz1 e1; cases e1; exact .inr ⟨A, cap, 4, rfl, rfl⟩)
    refine ⟨_, _, rfl, ?_, g1, g2⟩
    rw [← a1]
    exact sl_mk (upd_new (L := .real A cap 4)) hroom hcm (by omega) _
  · have hc : c' = n := by omega
    refine Calls.mono (ins_grow_C A.block A.off n c' i Av.block Av.off cv' vx w cur hi hnc (by omega) hn a2 (by omega) hvl hvw (by rw [e2]; exact fun v hv => flat_one hf v (List.mem_of_mem_drop (List.mem_of_mem_take hv))) hvs (flat_one hvf)) ?_
    rintro e w' ⟨G, row0, row1, row, rfl, g1, g2, g3, g4, rfl⟩
    rw [e1, e2, hnew] at g4
    have hN1 : (w.alloc (.cells row0 74)).drew.heap[w.heap.size]? = some (.cells row0 74 (0, 0)) := alloc_new w _
    have hN2 := setRow_heap _ w.heap.size row0 row1 _ (0, 0) hN1
    have hN3 := setRow_heap (((w.alloc (.cells row0 74)).drew.setRow w.heap.size row1).drew) w.heap.size row1 row _ (0, 0) hN2
    have rg : ∀ j v, nx[j]? = some v → row[j]? = some v := fun j v hj => by
      have hjl : j < nx.length := (List.getElem?_eq_some_iff.1 hj).1
      rw [← g4, List.getElem?_take] at hj
      split at hj
      · simpa using hj
      · cases hj
    obtain ⟨k1, k2⟩ := regrow_sound hh.toHR hb rfl hL (w' := ((w.alloc (.cells row0 74)).drew.setRow w.heap.size row1).drew.setRow w.heap.size row) rfl rfl rfl (by simp [World.drew]) (fun k hk hne => by
        rw [setRow_other _ w.heap.size k _ (by omega)]
        show ((w.alloc (.cells row0 74)).drew.setRow w.heap.size row1).heap[k]? = _
        rw [setRow_other _ w.heap.size k _ (by omega)]
        exact alloc_old w _ k hk) (b' := ⟨nx, true, 74, 4⟩) (L := .real ⟨w.heap.size, 0, none⟩ (G * 4) 4) rfl
      (by
        refine ⟨rfl, rfl, by simp only [nl]; omega, fun j v hv => ⟨v, ?_, (CR_flat (List.all_eq_true.1 nf v (List.mem_of_getElem? hv))).2 rfl⟩, fun _ => ⟨row, hN3, by simp only [Nat.zero_add]; exact g3⟩⟩
        rw [addr_add, cell_of_row _ w.heap.size j row _ (0, 0) hN3]
        exact rg j v hv)
      (by rintro A1 cap1 sz1 e1; cases e1; exact .inl (Nat.le_refl _))
    refine ⟨_, _, rfl, ?_, k1, k2⟩
    exact sl_mk upd_new g1 g2 rfl _
end Go.Proofs.Ytokafhinmakdnaa
