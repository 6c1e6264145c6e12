/- strings.Cut: the shelf's contract in the abstract layer's form. -/
import Derived.Shelf.LaysM
import Derived.Shelf.Strings.Cut
import Derived.Shelf.Strings.Shaped
import Derived.Test.YthnnbgggfpempaaDoorBytes
namespace Go.Proofs.YthnnbgggfpempaaDoor
open Go.Shelf Go.RowKit Go.Lib Go.Am
set_option maxRecDepth 100000
def laysC_ren : Go.Shelf.Ren := ⟨fun | 145 => 78 | 220 => 123 | 219 => 147 | 217 => 154 | 225 => 155 | 224 => 156 | 267 => 157 | 266 => 164 | 314 => 165 | n => n, fun | 9 => 9 | 4 => 4 | 59 => 103 | 3 => 3 | 5 => 5 | 46 => 138 | 146 => 150 | 51 => 149 | n => n, fun | 1 => 0 | n => n⟩
theorem laysC : Go.Proofs.Lays.n145 Tryd.prog laysC_ren := {
  mixed := by kernel_rfl
  f145 := Tryd.func78.trans (congrArg some (by kernel_rfl))
  f217 := Tryd.func154.trans (congrArg some (by kernel_rfl))
  f219 := Tryd.func147.trans (congrArg some (by kernel_rfl))
  f220 := Tryd.func123.trans (congrArg some (by kernel_rfl))
  f224 := Tryd.func156.trans (congrArg some (by kernel_rfl))
  f225 := Tryd.func155.trans (congrArg some (by kernel_rfl))
  f266 := Tryd.func164.trans (congrArg some (by kernel_rfl))
  f267 := Tryd.func157.trans (congrArg some (by kernel_rfl))
  f314 := Tryd.func165.trans (congrArg some (by kernel_rfl))
  t3 := Tryd.underlying3
  a3 := Tryd.isAgg3
  z3 := Tryd.sizeOf3
  v3 := Tryd.zeroValue3
  t4 := Tryd.underlying4
  a4 := Tryd.isAgg4
  z4 := Tryd.sizeOf4
  v4 := Tryd.zeroValue4
  t5 := Tryd.underlying5
  a5 := Tryd.isAgg5
  z5 := Tryd.sizeOf5
  v5 := Tryd.zeroValue5
  t9 := Tryd.underlying9
  a9 := Tryd.isAgg9
  z9 := Tryd.sizeOf9
  v9 := Tryd.zeroValue9
  t46 := Tryd.underlying138
  a46 := Tryd.isAgg138
  z46 := Tryd.sizeOf138
  v46 := Tryd.zeroValue138
  t51 := Tryd.underlying149
  a51 := Tryd.isAgg149
  z51 := Tryd.sizeOf149
  v51 := Tryd.zeroValue149
  t59 := Tryd.underlying103
  a59 := Tryd.isAgg103
  z59 := Tryd.sizeOf103
  v59 := Tryd.zeroValue103
  t146 := Tryd.underlying150
  a146 := Tryd.isAgg150
  z146 := Tryd.sizeOf150
  v146 := Tryd.zeroValue150
  g1 := by kernel_rfl }

def laysCm_ren : Go.Shelf.Ren := ⟨fun | 145 => 78 | 220 => 123 | 219 => 147 | 217 => 154 | 225 => 155 | 224 => 156 | 267 => 157 | 266 => 164 | 314 => 165 | n => n, fun | 9 => 9 | 4 => 4 | 59 => 103 | 3 => 3 | 5 => 5 | 46 => 138 | 146 => 150 | 51 => 149 | n => n, fun | 1 => 0 | n => n⟩
theorem laysCm : Go.Proofs.LaysM.n145 Tryd.prog laysCm_ren := {
  mixed := by kernel_rfl
  f145 := Tryd.func78.trans (congrArg some (by kernel_rfl))
  f217 := Tryd.func154.trans (congrArg some (by kernel_rfl))
  f219 := Tryd.func147.trans (congrArg some (by kernel_rfl))
  f220 := Tryd.func123.trans (congrArg some (by kernel_rfl))
  f224 := Tryd.func156.trans (congrArg some (by kernel_rfl))
  f225 := Tryd.func155.trans (congrArg some (by kernel_rfl))
  f266 := Tryd.func164.trans (congrArg some (by kernel_rfl))
  f267 := Tryd.func157.trans (congrArg some (by kernel_rfl))
  f314 := Tryd.func165.trans (congrArg some (by kernel_rfl))
  t3 := Tryd.underlying3
  a3 := Tryd.isAgg3
  z3 := Tryd.sizeOf3
  v3 := Tryd.zeroValue3
  t4 := Tryd.underlying4
  a4 := Tryd.isAgg4
  z4 := Tryd.sizeOf4
  v4 := Tryd.zeroValue4
  t5 := Tryd.underlying5
  a5 := Tryd.isAgg5
  z5 := Tryd.sizeOf5
  v5 := Tryd.zeroValue5
  t9 := Tryd.underlying9
  a9 := Tryd.isAgg9
  z9 := Tryd.sizeOf9
  v9 := Tryd.zeroValue9
  t46 := Tryd.underlying138
  a46 := Tryd.isAgg138
  z46 := Tryd.sizeOf138
  v46 := Tryd.zeroValue138
  t51 := Tryd.underlying149
  a51 := Tryd.isAgg149
  z51 := Tryd.sizeOf149
  v51 := Tryd.zeroValue149
  t59 := Tryd.underlying103
  a59 := Tryd.isAgg103
  z59 := Tryd.sizeOf103
  v59 := Tryd.zeroValue103
  t146 := Tryd.underlying150
  a146 := Tryd.isAgg150
  z146 := Tryd.sizeOf150
  v146 := Tryd.zeroValue150
  g1 := by kernel_rfl
  i3 := by kernel_rfl
  i4 := by kernel_rfl
  i5 := by kernel_rfl
  i9 := by kernel_rfl
  i46 := by kernel_rfl
  i51 := by kernel_rfl
  i59 := by kernel_rfl
  i146 := by kernel_rfl
  m1 := by kernel_rfl
  s1_3 := fun w h => Go.Proofs.cell_of_shapedOpen_int (zero := #[.int .i64 0]) (t := 3) h (of_decide_eq_true (by kernel_rfl)) (by kernel_rfl) rfl (by kernel_rfl) (by kernel_rfl) Tryd.underlying3 }

theorem someLen_ {W : World} (h : W.ShapedOpen Tryd.prog) : ∃ m, W.cell? ⟨0, 0, none⟩ = some (.int .i64 m) := laysCm.s1_3 W h
theorem below_drew (w : World) (q : Nat) : Below w.heap.size w (w.drewN q) := ⟨rfl, rfl, rfl, Nat.le_refl _, fun k _ => rfl⟩
theorem cut_A (l m : List UInt8) (hl : l.length ≤ 1048577) (H : Heap) : AFunC Tryd.prog 78 [.string (bs l), .string (bs m)] H (.tuple #[.string (bs (Lib.cut l m).1), .string (bs (Lib.cut l m).2.1), .bool (Lib.cut l m).2.2]) H := by
  refine ⟨⟨_, Tryd.func78, by kernel_rfl, by kernel_rfl⟩, fun ρ w cargs hg hl' => ?_⟩
  have hc : cargs = #[.string (bs l), .string (bs m)] := by
    have hn := hl'.length
    obtain ⟨c⟩ := cargs
    match c, hn, hl' with
    | [x, y], _, hl' =>
      have h1 : x = .string (bs l) := hl'.1
      have h2 : y = .string (bs m) := hl'.2.1
      rw [h1, h2]
  subst hc
  obtain ⟨k, hk⟩ := hg.gl.len 0 (show _ = _ by kernel_rfl)
  refine Calls.mono (Any.strings_Cut laysC (bs l) (bs m) k w (by rw [bs_size]; omega) hk) ?_
  rintro e w' ⟨rfl, q, rfl⟩
  have hb := below_drew w q
  refine ⟨_, ρ, rfl, ?_, hg.toHR.below hb, (Ext.refl ρ H w).below hb⟩
  simp only [bs_data]
  exact ⟨_, rfl, rfl, rfl, rfl, trivial⟩
end Go.Proofs.YthnnbgggfpempaaDoor
