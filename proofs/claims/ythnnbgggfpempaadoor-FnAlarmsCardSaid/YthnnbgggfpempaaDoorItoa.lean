/- strconv.Itoa: the shelf's contract in the abstract layer's form. -/
import Derived.Shelf.LaysM
import Derived.Shelf.Strconv.Itoa3
import Derived.Test.YthnnbgggfpempaaDoorFacts
import Derived.Test.YthnnbgggfpempaaDoorAm15
namespace Go.Proofs.YthnnbgggfpempaaDoor
open Go.Shelf Go.RowKit Go.Sort Go.Lib Go.Am
set_option maxRecDepth 100000
def laysI_ren : Go.Shelf.Ren := ⟨fun | 171 => 114 | 243 => 145 | 246 => 152 | 283 => 160 | 284 => 161 | 285 => 162 | 286 => 163 | 129 => 169 | 317 => 168 | 318 => 170 | 319 => 171 | 320 => 172 | 337 => 173 | 338 => 174 | n => n, fun | 3 => 3 | 9 => 9 | 2 => 2 | 4 => 4 | 171 => 144 | 0 => 0 | 53 => 79 | 37 => 22 | 5 => 5 | 173 => 147 | 212 => 154 | 51 => 149 | 20 => 20 | 213 => 155 | 46 => 138 | 232 => 158 | 233 => 159 | n => n, fun | 17 => 1 | 18 => 2 | 19 => 3 | n => n⟩
theorem laysI : Go.Proofs.LaysM.n171 Tryd.prog laysI_ren := {
  mixed := by kernel_rfl
  f129 := Tryd.func169.trans (congrArg some (by kernel_rfl))
  f171 := Tryd.func114.trans (congrArg some (by kernel_rfl))
  f243 := Tryd.func145.trans (congrArg some (by kernel_rfl))
  f246 := Tryd.func152.trans (congrArg some (by kernel_rfl))
  f283 := Tryd.func160.trans (congrArg some (by kernel_rfl))
  f284 := Tryd.func161.trans (congrArg some (by kernel_rfl))
  f285 := Tryd.func162.trans (congrArg some (by kernel_rfl))
  f286 := Tryd.func163.trans (congrArg some (by kernel_rfl))
  f317 := Tryd.func168.trans (congrArg some (by kernel_rfl))
  f318 := Tryd.func170.trans (congrArg some (by kernel_rfl))
  f319 := Tryd.func171.trans (congrArg some (by kernel_rfl))
  f320 := Tryd.func172.trans (congrArg some (by kernel_rfl))
  f337 := Tryd.func173.trans (congrArg some (by kernel_rfl))
  f338 := Tryd.func174.trans (congrArg some (by kernel_rfl))
  t0 := Tryd.underlying0
  a0 := Tryd.isAgg0
  z0 := Tryd.sizeOf0
  v0 := Tryd.zeroValue0
  t2 := Tryd.underlying2
  a2 := Tryd.isAgg2
  z2 := Tryd.sizeOf2
  v2 := Tryd.zeroValue2
  t3 := Tryd.underlying3
  a3 := Tryd.isAgg3
  z3 := Tryd.sizeOf3
  v3 := Tryd.zeroValue3
  t4 := Tryd.underlying4
  a4 := Tryd.isAgg4
  z4 := Tryd.sizeOf4
  v4 := Tryd.zeroValue4
  t5 := Tryd.underlying5
  a5 := Tryd.isAgg5
  z5 := Tryd.sizeOf5
  v5 := Tryd.zeroValue5
  t9 := Tryd.underlying9
  a9 := Tryd.isAgg9
  z9 := Tryd.sizeOf9
  v9 := Tryd.zeroValue9
  t20 := Tryd.underlying20
  a20 := Tryd.isAgg20
  z20 := Tryd.sizeOf20
  v20 := Tryd.zeroValue20
  t37 := Tryd.underlying22
  a37 := Tryd.isAgg22
  z37 := Tryd.sizeOf22
  v37 := Tryd.zeroValue22
  t46 := Tryd.underlying138
  a46 := Tryd.isAgg138
  z46 := Tryd.sizeOf138
  v46 := Tryd.zeroValue138
  t51 := Tryd.underlying149
  a51 := Tryd.isAgg149
  z51 := Tryd.sizeOf149
  v51 := Tryd.zeroValue149
  t53 := Tryd.underlying79
  a53 := Tryd.isAgg79
  z53 := Tryd.sizeOf79
  v53 := Tryd.zeroValue79
  t171 := Tryd.underlying144
  a171 := Tryd.isAgg144
  z171 := Tryd.sizeOf144
  v171 := Tryd.zeroValue144
  t173 := Tryd.underlying147
  a173 := Tryd.isAgg147
  z173 := Tryd.sizeOf147
  v173 := Tryd.zeroValue147
  t212 := Tryd.underlying154
  a212 := Tryd.isAgg154
  z212 := Tryd.sizeOf154
  v212 := Tryd.zeroValue154
  t213 := Tryd.underlying155
  a213 := Tryd.isAgg155
  z213 := Tryd.sizeOf155
  t232 := Tryd.underlying158
  a232 := Tryd.isAgg158
  z232 := Tryd.sizeOf158
  v232 := Tryd.zeroValue158
  t233 := Tryd.underlying159
  a233 := Tryd.isAgg159
  z233 := Tryd.sizeOf159
  v233 := Tryd.zeroValue159
  g17 := by kernel_rfl
  g18 := by kernel_rfl
  g19 := by kernel_rfl
  i0 := by kernel_rfl
  i2 := by kernel_rfl
  i3 := by kernel_rfl
  i4 := by kernel_rfl
  i5 := by kernel_rfl
  i9 := by kernel_rfl
  i20 := by kernel_rfl
  i37 := by kernel_rfl
  i46 := by kernel_rfl
  i51 := by kernel_rfl
  i53 := by kernel_rfl
  i171 := by kernel_rfl
  i173 := by kernel_rfl
  i212 := by kernel_rfl
  i232 := by kernel_rfl
  i233 := by kernel_rfl
  m17 := by kernel_rfl
  m18 := by kernel_rfl
  m19 := by kernel_rfl }

theorem below_itoa (w : World) (q : Nat) (os : Array Obj) : Below w.heap.size w (grow (w.drewN q) os) := by
  refine ⟨rfl, rfl, rfl, ?_, fun k hk => ?_⟩
  · show w.heap.size ≤ (w.heap ++ os).size
    simp
  · show (w.heap ++ os)[k]? = w.heap[k]?
    rw [Array.getElem?_append_left hk]
theorem itoa_A (n : Int) (h0 : -9223372036854775808 ≤ n) (h1 : n ≤ 9223372036854775807) (H : Heap) : AFunC Tryd.prog 114 [.int .i64 n] H (.string ⟨(Lib.itoa n).toArray⟩) H := by
  refine ⟨⟨_, Tryd.func114, by kernel_rfl, by kernel_rfl⟩, fun ρ w cargs hg hl => ?_⟩
  have hc : cargs = #[.int .i64 n] := by
    have hl' := hl.length
    obtain ⟨l⟩ := cargs
    cases l with
    | nil => simp at hl'
    | cons x xs => cases xs with
      | nil =>
        have : x = .int .i64 n := hl.1
        rw [this]
      | cons _ _ => simp at hl'
  subst hc
  refine Calls.mono (Any.strconv_Itoa laysI n h0 h1 w (hg.gl.tab 1 (show _ = _ by kernel_rfl))) ?_
  rintro e w' ⟨rfl, k, os, rfl⟩
  have hb := below_itoa w k os
  exact ⟨_, ρ, rfl, (SV_flat rfl).2 rfl, hg.toHR.below hb, (Ext.refl ρ H w).below hb⟩
end Go.Proofs.YthnnbgggfpempaaDoor
