/- spec.l21Take. -/
import Derived.Test.YtokafhinmakdnaaTake
namespace Go.Proofs.Ytokafhinmakdnaa
open Go.Am
set_option linter.unusedVariables false
set_option linter.unusedSimpArgs false
set_option maxRecDepth 100000
set_option maxHeartbeats 4000000
theorem rule_mono {rs : List Ar} (h : goodR rs = true) : ∀ i j, i < j → j < rs.length → (rs.getD i rD).1 < (rs.getD j rD).1 := by
  intro i j hij hj
  have key : ∀ k, i + k + 1 < rs.length → (rs.getD i rD).1 < (rs.getD (i + k + 1) rD).1 := by
    intro k
    induction k with
    | zero =>
      intro hk
      exact of_decide_eq_true ((asc_at h (i + 1) (by omega)).2 (by omega))
    | succ k ih =>
      intro hk
      have h1 := ih (by omega)
      have h2 : (rs.getD (i + (k + 1) + 1 - 1) rD).1 < (rs.getD (i + (k + 1) + 1) rD).1 := of_decide_eq_true ((asc_at h (i + (k + 1) + 1) hk).2 (by omega))
      rw [Nat.add_sub_cancel] at h2
      have e : i + (k + 1) = i + k + 1 := by omega
      rw [e] at h2 ⊢
      exact Int.lt_trans h1 h2
  have := key (j - i - 1) (by omega)
  rwa [show i + (j - i - 1) + 1 = j by omega] at this
/-- the rule of a node, among the first i -/
noncomputable def ruleTo (rs : List Ar) (node : Int) (i : Nat) : Int := if ruleI rs node < i then ruleI rs node else -1
theorem ruleTo_zero (rs : List Ar) (node : Int) : ruleTo rs node 0 = -1 := by
  have := ruleI_lt rs node
  unfold ruleTo; split <;> omega
theorem ruleTo_all (rs : List Ar) (node : Int) : ruleTo rs node rs.length = ruleI rs node := by
  have := ruleI_lt rs node
  unfold ruleTo; rw [if_pos (by omega)]
theorem ruleTo_next {rs : List Ar} (h : goodR rs = true) (node : Int) {i : Nat} (hi : i < rs.length) : ruleTo rs node (i + 1) = if (rs.getD i rD).1 = node then (i : Int) else ruleTo rs node i := by
  have f := ruleI_found rs node
  have m := rule_mono h
  have b := ruleI_lt rs node
  unfold ruleTo
  generalize ruleI rs node = r at *
  cases f with
  | yes k h1 h2 h3 =>
    have h2 := of_decide_eq_true h2
    by_cases e : (rs.getD i rD).1 = node
    · have : i = k := by
        rcases Nat.lt_trichotomy i k with hlt | rfl | hlt
        · have := m i k hlt h1; omega
        · rfl
        · have := m k i hlt hi; omega
      subst this
      rw [if_pos e, if_pos (by omega)]
    · have : i ≠ k := fun e2 => e (by rw [e2]; exact h2)
      rw [if_neg e]
      by_cases hk : k < i
      · rw [if_pos (by omega), if_pos (by omega)]
      · rw [if_neg (by omega), if_neg (by omega)]
  | no h3 =>
    have := of_decide_eq_false (h3 i hi)
    rw [if_neg this, if_pos (by omega), if_pos (by omega)]
theorem sTake_A (rs : List Ar) (l : List Al) (hour node value : Int) (hrl : rs.length ≤ 1048577) (hg : goodR rs = true) (ho : Ord l) (hl8 : l.length ≤ 8) (c0 c1 : Nat) (H : Heap) (t0 t1 : Nat) (hR : Sl arE H t0 rs) (hS : Sl alE H t1 l) (hz1 : blkSz H t1 = some 4) :
    AFunC Try.prog 40 [.slice (some ⟨t0, 0, none⟩) rs.length c0, .slice (some ⟨t1, 0, none⟩) l.length c1, .agg #[.int .i64 hour, .int .i64 node, .int .i64 value]] H
      (.slice (some ⟨H.length, 0, none⟩) (takeL rs l (hour, node, value)).length (takeL rs l (hour, node, value)).length) (H ++ [some ⟨(takeL rs l (hour, node, value)).flatMap alE, true, 74, 4⟩]) := by
  refine AFunC.of_body Try.func40 (by kernel_rfl) rfl (by kernel_rfl) (by simp [Try.ntmps40]) ?_
  have ht0 := hR.lt
  have ht1 := hS.lt
  have al := hS.all (s := 4) (fun _ => rfl)
  have lf := alE_length l
  have cs := fun k hk => hR.cells (s := 4) (fun _ => rfl) rD k hk
  have cr := fun k hk => hR.cell (s := 4) (fun _ => rfl) rD k 0 hk (by omega)
  have ca := fun k hk => hS.cells (s := 4) (fun _ => rfl) aD k hk
  have cn := fun k hk => hS.cell (s := 4) (fun _ => rfl) aD k 0 hk (by omega)
  simp only [arE] at cs
  simp only [arE, Nat.add_zero] at cr
  simp only [alE] at ca
  simp only [alE, Nat.add_zero] at cn
  have rl := ruleI_lt rs node
  simp -dsimp -implicitDefEqProofs (disch := omega) [go_sem, -List.getD_eq_getElem?_getD, ite_yes, ht0, ht1]
  refine ALoop.intro (ι := Nat) (fun i => i ≤ rs.length) (fun i => [(0, .slice (some ⟨t0, 0, none⟩) rs.length c0), (1, .slice (some ⟨t1, 0, none⟩) l.length c1), (5, .pointer (some ⟨H.length, 0, none⟩)), (7, .slice (some ⟨H.length + 1, 0, none⟩) 0 0), (8, .int .i64 (ruleTo rs node i)), (9, .int .i64 i)])
    (fun _ => H ++ [some ⟨[.int .i64 hour, .int .i64 node, .int .i64 value], true, 34, 1⟩, some ⟨[], true, 74, 4⟩]) (fun i => rs.length - i) 0 (by omega) ?_ ?_
  · refine weakS_mk [some 0, some 1] rfl ?_ (by simp -dsimp -implicitDefEqProofs (disch := omega) [go_sem, -List.getD_eq_getElem?_getD, ite_yes, ht0, ht1, ruleTo_zero])
    simp -dsimp -implicitDefEqProofs (disch := omega) [go_sem, -List.getD_eq_getElem?_getD, ite_yes]
    exact ⟨.inl ⟨rfl, rfl⟩, .inl ⟨rfl, rfl⟩⟩
  intro i hi
  by_cases hlt : i < rs.length
  · have hlti : (i : Int) < (rs.length : Int) := by omega
    have nx := ruleTo_next hg node hlt
    have c := cr i hlt
    simp -dsimp -implicitDefEqProofs (disch := omega) [go_sem, -List.getD_eq_getElem?_getD, ite_yes, hlt, hlti]
    refine ADraw.quiet (by kernel_rfl) (by kernel_rfl) (by kernel_rfl) ?_
    by_cases e : (rs.getD i rD).1 = node
    · rw [if_pos e] at nx
      rw [e] at c
      simp -dsimp -implicitDefEqProofs (disch := omega) [go_sem, -List.getD_eq_getElem?_getD, ite_yes, hlt, hlti, c]
      refine LoopEnd.of (i + 1) (by omega) (by omega) (weakS_mk [some 0, some 1] rfl ?_ (by simp -dsimp -implicitDefEqProofs (disch := omega) [go_sem, -List.getD_eq_getElem?_getD, ite_yes, ht0, ht1, nx]))
      simp -dsimp -implicitDefEqProofs (disch := omega) [go_sem, -List.getD_eq_getElem?_getD, ite_yes]
      exact ⟨.inl ⟨rfl, rfl⟩, .inl ⟨rfl, rfl⟩⟩
    · rw [if_neg e] at nx
      simp -dsimp -implicitDefEqProofs (disch := omega) [go_sem, -List.getD_eq_getElem?_getD, ite_yes, hlt, hlti, c, e]
      refine LoopEnd.of (i + 1) (by omega) (by omega) (weakS_mk [some 0, some 1] rfl ?_ (by simp -dsimp -implicitDefEqProofs (disch := omega) [go_sem, -List.getD_eq_getElem?_getD, ite_yes, ht0, ht1, nx]))
      simp -dsimp -implicitDefEqProofs (disch := omega) [go_sem, -List.getD_eq_getElem?_getD, ite_yes]
      exact ⟨.inl ⟨rfl, rfl⟩, .inl ⟨rfl, rfl⟩⟩
  obtain rfl : i = rs.length := by omega
  have hlti : ¬ (rs.length : Int) < (rs.length : Int) := by omega
  rw [ruleTo_all]
  by_cases hneg : ruleI rs node < 0
  · have tk : takeL rs l (hour, node, value) = l := by unfold takeL; rw [if_pos hneg]
    rw [tk]
    simp -dsimp -implicitDefEqProofs (disch := omega) [go_sem, -List.getD_eq_getElem?_getD, ite_yes, hneg, al, lf, ht1]
    refine ⟨by omega, fin_list [some 2] rfl ?_ (by simp -dsimp -implicitDefEqProofs (disch := omega) [go_sem, -List.getD_eq_getElem?_getD, ite_yes])⟩
    simp -dsimp -implicitDefEqProofs (disch := omega) [go_sem, -List.getD_eq_getElem?_getD, ite_yes]
    exact .inl ⟨rfl, alE_flat _⟩
  obtain ⟨kr, hkr⟩ : ∃ k : Nat, ruleI rs node = (k : Int) := ⟨(ruleI rs node).toNat, by omega⟩
  have hkr2 : kr < rs.length := by omega
  have hkri : (kr : Int) < (rs.length : Int) := by omega
  have hkn : ¬ (kr : Int) < 0 := by omega
  have tk : takeL rs l (hour, node, value) = take1 (rs.getD kr rD) l (hour, node, value) := by unfold takeL; rw [if_neg hneg, hkr]; rfl
  have csr := cs kr hkr2
  have hok := rule_ok hg hkr2
  rw [hkr]
  clear rl cs cr hneg
  generalize rs.getD kr rD = rule at *
  have old := oldN_rng ho node
  have llt := fun k (hk : k < lowN node l) => lowN_lt node l k hk
  have lat := lowN_at node l
  have ple := lowN_le node l
  simp -dsimp -implicitDefEqProofs (disch := omega) [go_sem, -List.getD_eq_getElem?_getD, ite_yes, hkn]
  refine ALoop.intro (ι := Nat) (fun k => k ≤ lowN node l) (fun k => [(0, .slice (some ⟨t0, 0, none⟩) rs.length c0), (1, .slice (some ⟨t1, 0, none⟩) l.length c1), (5, .pointer (some ⟨H.length, 0, none⟩)), (7, .slice (some ⟨H.length + 1, 0, none⟩) 0 0), (8, .int .i64 kr), (10, .int .i64 k)])
    (fun _ => H ++ [some ⟨[.int .i64 hour, .int .i64 node, .int .i64 value], true, 34, 1⟩, some ⟨[], true, 74, 4⟩]) (fun k => lowN node l - k) 0 (by omega) ?_ ?_
  · refine weakS_mk [some 0, some 1] rfl ?_ (by simp -dsimp -implicitDefEqProofs (disch := omega) [go_sem, -List.getD_eq_getElem?_getD, ite_yes, ht0, ht1])
    simp -dsimp -implicitDefEqProofs (disch := omega) [go_sem, -List.getD_eq_getElem?_getD, ite_yes]
    exact ⟨.inl ⟨rfl, rfl⟩, .inl ⟨rfl, rfl⟩⟩
  intro k hk
  by_cases hlt : k < lowN node l
  · have c1 := llt k hlt
    have hkl : k < l.length := by omega
    have hkli : (k : Int) < (l.length : Int) := by omega
    have c := cn k hkl
    simp -dsimp -implicitDefEqProofs (disch := omega) [go_sem, -List.getD_eq_getElem?_getD, ite_yes, hkl, hkli]
    refine ADraw.quiet (by kernel_rfl) (by kernel_rfl) (by kernel_rfl) ?_
    simp -dsimp -implicitDefEqProofs (disch := omega) [go_sem, -List.getD_eq_getElem?_getD, ite_yes, hkl, hkli, c, c1]
    refine LoopEnd.of (k + 1) (by omega) (by omega) (weakS_mk [some 0, some 1] rfl ?_ (by simp -dsimp -implicitDefEqProofs (disch := omega) [go_sem, -List.getD_eq_getElem?_getD, ite_yes, ht0, ht1]))
    simp -dsimp -implicitDefEqProofs (disch := omega) [go_sem, -List.getD_eq_getElem?_getD, ite_yes]
    exact ⟨.inl ⟨rfl, rfl⟩, .inl ⟨rfl, rfl⟩⟩
  obtain rfl : k = lowN node l := by omega
  have a1 := hS.cut (s := 4) (fun _ => rfl) 0 (lowN node l) (by omega)
  have a2 := hS.cut (s := 4) (fun _ => rfl) (nextN l node) (l.length - nextN l node) (by have := nextN_le l node; omega)
  rw [List.drop_zero, Nat.zero_mul] at a1
  rw [List.take_of_length_le (by rw [List.length_drop]; omega)] at a2
  have b1 : ((l.take (lowN node l)).flatMap alE).length = lowN node l * 4 := by rw [alE_length, List.length_take, Nat.min_eq_left (by omega)]
  have tkd : take1 rule l (hour, node, value) = l.take (lowN node l) ++ (if kindN rule (oldN l node) value = 0 then [] else [newA rule l (hour, node, value)]) ++ l.drop (nextN l node) := rfl
  have nwd : newA rule l (hour, node, value) = if kindN rule (oldN l node) value = oldN l node then (if hasN l node = true then l.getD (lowN node l) aD else (node, 0, 0, false)) else (node, kindN rule (oldN l node) value, hour, false) := rfl
  rw [nwd, ← tk] at tkd
  clear nwd tk
  have nle := nextN_le l node
  have hnx : nextN l node = lowN node l + (if hasN l node = true then 1 else 0) := rfl
  have dhas : hasN l node = decide (lowN node l < l.length ∧ (l.getD (lowN node l) aD).1 = node) := rfl
  have tl : (l.take (lowN node l)).length = lowN node l := by rw [List.length_take]; omega
  have hno1 : lowN node l < l.length → ¬ (l.getD (lowN node l) aD).1 < node := fun h => by have := lat h; omega
  by_cases hh : hasN l node = true
  · have hp := (of_decide_eq_true hh).1
    have hn := (of_decide_eq_true hh).2
    have hpi : (lowN node l : Int) < (l.length : Int) := by omega
    have hlt0 := hno1 hp
    have c := cn _ hp
    have c4 := ca _ hp
    have e0 : oldN l node = (l.getD (lowN node l) aD).2.1 := by unfold oldN; rw [if_pos hh]
    have old1 := old.2.2 hh
    rw [if_pos hh] at hnx tkd
    rw [← e0] at c4
    have enx : ((lowN node l : Nat) : Int) + 1 = (nextN l node : Nat) := by omega
    have C := fun H' => l21Kind_A rule (oldN l node) value hok H'
    obtain ⟨K, hK⟩ : ∃ K, K = kindN rule (oldN l node) value := ⟨_, rfl⟩
    rw [← hK] at tkd C
    generalize nextN l node = q at *
    generalize oldN l node = old0 at *
    clear dhas hh
    generalize lowN node l = p at *
    generalize l.getD p aD = x at *
    rw [hn] at hlt0 c c4
    simp -dsimp -implicitDefEqProofs (disch := omega) [go_sem, -List.getD_eq_getElem?_getD, ite_yes, hp, hpi]
    refine ADraw.quiet (by kernel_rfl) (by kernel_rfl) (by kernel_rfl) ?_
    simp -dsimp -implicitDefEqProofs (disch := omega) [go_sem, -List.getD_eq_getElem?_getD, ite_yes, hp, hpi, c, hlt0, a1, ht1]
    refine ⟨by omega, ?_⟩
    refine ADraw.quiet (by kernel_rfl) (by kernel_rfl) (by kernel_rfl) ?_
    simp -dsimp -implicitDefEqProofs (disch := omega) [go_sem, -List.getD_eq_getElem?_getD, ite_yes, hp, hpi, c, hlt0, a1, ht1, c4]
    refine ADraw.quiet (by kernel_rfl) (by kernel_rfl) (by kernel_rfl) ?_
    simp -dsimp -implicitDefEqProofs (disch := omega) [go_sem, -List.getD_eq_getElem?_getD, ite_yes, hkr2, hkri, csr]
    refine ACallQ.of (C _) rfl ?_
    by_cases hsame : K = old0
    · have hz : ¬ K = 0 := by omega
      have ho0 : ¬ old0 = 0 := by omega
      rw [if_neg hz, if_pos hsame] at tkd
      have tkl := congrArg List.length tkd
      simp only [List.length_append, List.length_singleton, List.length_nil, List.length_drop, tl] at tkl
      simp -dsimp -implicitDefEqProofs (disch := omega) [go_sem, -List.getD_eq_getElem?_getD, ite_yes, hsame, ho0, hz, b1, enx, a2, hz1, ht1]
      first
      | refine ⟨by omega, by omega, fin_list [some 6] rfl ?_ (by simp -dsimp -implicitDefEqProofs (disch := omega) [go_sem, -List.getD_eq_getElem?_getD, ite_yes, tkl])⟩
      | refine ⟨by omega, fin_list [some 6] rfl ?_ (by simp -dsimp -implicitDefEqProofs (disch := omega) [go_sem, -List.getD_eq_getElem?_getD, ite_yes, tkl])⟩
      simp -dsimp -implicitDefEqProofs (disch := omega) [go_sem, -List.getD_eq_getElem?_getD, ite_yes]
      exact WL_eq (by rw [tkd]; first | (simp [alE, hn, ← e0]; done) | simp [List.flatMap_append, -List.take_append_drop, alE])
    by_cases hz : K = 0
    · rw [if_pos hz] at tkd
      have ho0 : ¬ 0 = old0 := by omega
      have tkl := congrArg List.length tkd
      simp only [List.length_append, List.length_singleton, List.length_nil, List.length_drop, tl] at tkl
      simp -dsimp -implicitDefEqProofs (disch := omega) [go_sem, -List.getD_eq_getElem?_getD, ite_yes, hsame, hz, ho0, b1, enx, a2, hz1, ht1]
      first
      | refine ⟨by omega, by omega, fin_list [some 4] rfl ?_ (by simp -dsimp -implicitDefEqProofs (disch := omega) [go_sem, -List.getD_eq_getElem?_getD, ite_yes, tkl])⟩
      | refine ⟨by omega, fin_list [some 4] rfl ?_ (by simp -dsimp -implicitDefEqProofs (disch := omega) [go_sem, -List.getD_eq_getElem?_getD, ite_yes, tkl])⟩
      simp -dsimp -implicitDefEqProofs (disch := omega) [go_sem, -List.getD_eq_getElem?_getD, ite_yes]
      exact WL_eq (by rw [tkd]; first | (simp [alE]; done) | simp [List.flatMap_append, -List.take_append_drop, alE])
    · rw [if_neg hz, if_neg hsame] at tkd
      have tkl := congrArg List.length tkd
      simp only [List.length_append, List.length_singleton, List.length_nil, List.length_drop, tl] at tkl
      simp -dsimp -implicitDefEqProofs (disch := omega) [go_sem, -List.getD_eq_getElem?_getD, ite_yes, hsame, hz, b1, enx, a2, hz1, ht1]
      first
      | refine ⟨by omega, by omega, fin_list [some 6] rfl ?_ (by simp -dsimp -implicitDefEqProofs (disch := omega) [go_sem, -List.getD_eq_getElem?_getD, ite_yes, tkl])⟩
      | refine ⟨by omega, fin_list [some 6] rfl ?_ (by simp -dsimp -implicitDefEqProofs (disch := omega) [go_sem, -List.getD_eq_getElem?_getD, ite_yes, tkl])⟩
      simp -dsimp -implicitDefEqProofs (disch := omega) [go_sem, -List.getD_eq_getElem?_getD, ite_yes]
      exact WL_eq (by rw [tkd]; first | (simp [alE]; done) | simp [List.flatMap_append, -List.take_append_drop, alE])
  · have e0 : oldN l node = 0 := by unfold oldN; rw [if_neg hh]
    have hc := fun h => (show ¬ ((lowN node l < l.length ∧ (l.getD (lowN node l) aD).1 = node)) from fun h2 => hh (decide_eq_true h2)) h
    rw [if_neg hh] at hnx tkd
    rw [Nat.add_zero] at hnx
    have C := fun H' => l21Kind_A rule (oldN l node) value hok H'
    rw [e0] at tkd C
    obtain ⟨K, hK⟩ : ∃ K, K = kindN rule 0 value := ⟨_, rfl⟩
    rw [← hK] at tkd C
    rw [hnx] at a2 tkd
    generalize lowN node l = p at *
    have dropl : p + (l.length - p) = l.length := by omega
    have step : ∀ (X : Prop), X → X := fun _ h => h
    by_cases hpl : p < l.length
    · have hpli : (p : Int) < (l.length : Int) := by omega
      have hne : ¬ (l.getD p aD).1 = node := fun h => hc ⟨hpl, h⟩
      have hlt0 := hno1 hpl
      have c := cn _ hpl
      generalize l.getD p aD = x at *
      have enx : True := trivial
      simp -dsimp -implicitDefEqProofs (disch := omega) [go_sem, -List.getD_eq_getElem?_getD, ite_yes, hpl, hpli, c, hlt0, hne]
      refine ADraw.quiet (by kernel_rfl) (by kernel_rfl) (by kernel_rfl) ?_
      simp -dsimp -implicitDefEqProofs (disch := omega) [go_sem, -List.getD_eq_getElem?_getD, ite_yes, hpl, hpli, c, hlt0, hne, a1, ht1]
      refine ⟨by omega, ?_⟩
      refine ADraw.quiet (by kernel_rfl) (by kernel_rfl) (by kernel_rfl) ?_
      simp -dsimp -implicitDefEqProofs (disch := omega) [go_sem, -List.getD_eq_getElem?_getD, ite_yes, hpl, hpli, c, hlt0, hne, a1, ht1]
      refine ADraw.quiet (by kernel_rfl) (by kernel_rfl) (by kernel_rfl) ?_
      simp -dsimp -implicitDefEqProofs (disch := omega) [go_sem, -List.getD_eq_getElem?_getD, ite_yes, hkr2, hkri, csr]
      refine ACallQ.of (C _) rfl ?_
      by_cases hz : K = 0
      · rw [if_pos hz] at tkd
        have tkl := congrArg List.length tkd
        simp only [List.length_append, List.length_singleton, List.length_nil, List.length_drop, tl] at tkl
        simp -dsimp -implicitDefEqProofs (disch := omega) [go_sem, -List.getD_eq_getElem?_getD, ite_yes, hz, b1, enx, a2, hz1, ht1]
        first
        | refine ⟨by omega, by omega, fin_list [some 4] rfl ?_ (by simp -dsimp -implicitDefEqProofs (disch := omega) [go_sem, -List.getD_eq_getElem?_getD, ite_yes, tkl])⟩
        | refine ⟨by omega, fin_list [some 4] rfl ?_ (by simp -dsimp -implicitDefEqProofs (disch := omega) [go_sem, -List.getD_eq_getElem?_getD, ite_yes, tkl])⟩
        simp -dsimp -implicitDefEqProofs (disch := omega) [go_sem, -List.getD_eq_getElem?_getD, ite_yes]
        exact WL_eq (by rw [tkd]; first | (simp [alE]; done) | simp [List.flatMap_append, -List.take_append_drop, alE])
      · rw [if_neg hz, if_neg hz] at tkd
        have tkl := congrArg List.length tkd
        simp only [List.length_append, List.length_singleton, List.length_nil, List.length_drop, tl] at tkl
        simp -dsimp -implicitDefEqProofs (disch := omega) [go_sem, -List.getD_eq_getElem?_getD, ite_yes, hz, b1, enx, a2, hz1, ht1]
        first
        | refine ⟨by omega, by omega, fin_list [some 6] rfl ?_ (by simp -dsimp -implicitDefEqProofs (disch := omega) [go_sem, -List.getD_eq_getElem?_getD, ite_yes, tkl])⟩
        | refine ⟨by omega, fin_list [some 6] rfl ?_ (by simp -dsimp -implicitDefEqProofs (disch := omega) [go_sem, -List.getD_eq_getElem?_getD, ite_yes, tkl])⟩
        simp -dsimp -implicitDefEqProofs (disch := omega) [go_sem, -List.getD_eq_getElem?_getD, ite_yes]
        exact WL_eq (by rw [tkd]; first | (simp [alE]; done) | simp [List.flatMap_append, -List.take_append_drop, alE])
    · have hpli : ¬ (p : Int) < (l.length : Int) := by omega
      have p0 : l.length - p = 0 := by omega
      rw [p0, Nat.zero_mul] at a2
      have enx : True := trivial
      simp -dsimp -implicitDefEqProofs (disch := omega) [go_sem, -List.getD_eq_getElem?_getD, ite_yes, hpl, hpli]
      refine ADraw.quiet (by kernel_rfl) (by kernel_rfl) (by kernel_rfl) ?_
      simp -dsimp -implicitDefEqProofs (disch := omega) [go_sem, -List.getD_eq_getElem?_getD, ite_yes, hpl, hpli, a1, ht1]
      refine ⟨by omega, ?_⟩
      refine ADraw.quiet (by kernel_rfl) (by kernel_rfl) (by kernel_rfl) ?_
      simp -dsimp -implicitDefEqProofs (disch := omega) [go_sem, -List.getD_eq_getElem?_getD, ite_yes, hpl, hpli, a1, ht1]
      refine ADraw.quiet (by kernel_rfl) (by kernel_rfl) (by kernel_rfl) ?_
      simp -dsimp -implicitDefEqProofs (disch := omega) [go_sem, -List.getD_eq_getElem?_getD, ite_yes, hkr2, hkri, csr]
      refine ACallQ.of (C _) rfl ?_
      by_cases hz : K = 0
      · rw [if_pos hz] at tkd
        have tkl := congrArg List.length tkd
        simp only [List.length_append, List.length_singleton, List.length_nil, List.length_drop, tl] at tkl
        simp -dsimp -implicitDefEqProofs (disch := omega) [go_sem, -List.getD_eq_getElem?_getD, ite_yes, hz, b1, enx, a2, hz1, ht1]
        first
        | refine ⟨by omega, by omega, fin_list [some 4] rfl ?_ (by simp -dsimp -implicitDefEqProofs (disch := omega) [go_sem, -List.getD_eq_getElem?_getD, ite_yes, tkl])⟩
        | refine ⟨by omega, fin_list [some 4] rfl ?_ (by simp -dsimp -implicitDefEqProofs (disch := omega) [go_sem, -List.getD_eq_getElem?_getD, ite_yes, tkl])⟩
        simp -dsimp -implicitDefEqProofs (disch := omega) [go_sem, -List.getD_eq_getElem?_getD, ite_yes]
        exact WL_eq (by rw [tkd]; first | (simp [alE]; done) | simp [List.flatMap_append, -List.take_append_drop, alE])
      · rw [if_neg hz, if_neg hz] at tkd
        have tkl := congrArg List.length tkd
        simp only [List.length_append, List.length_singleton, List.length_nil, List.length_drop, tl] at tkl
        simp -dsimp -implicitDefEqProofs (disch := omega) [go_sem, -List.getD_eq_getElem?_getD, ite_yes, hz, b1, enx, a2, hz1, ht1]
        first
        | refine ⟨by omega, by omega, fin_list [some 6] rfl ?_ (by simp -dsimp -implicitDefEqProofs (disch := omega) [go_sem, -List.getD_eq_getElem?_getD, ite_yes, tkl])⟩
        | refine ⟨by omega, fin_list [some 6] rfl ?_ (by simp -dsimp -implicitDefEqProofs (disch := omega) [go_sem, -List.getD_eq_getElem?_getD, ite_yes, tkl])⟩
        simp -dsimp -implicitDefEqProofs (disch := omega) [go_sem, -List.getD_eq_getElem?_getD, ite_yes]
        exact WL_eq (by rw [tkd]; first | (simp [alE]; done) | simp [List.flatMap_append, -List.take_append_drop, alE])
end Go.Proofs.Ytokafhinmakdnaa
