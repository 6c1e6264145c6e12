/- IsGentle: both sides, and the law. -/
import Derived.Test.YtamkdgjagjpmlaaGentle
import Derived.Test.YtamkdgjagjpmlaaRecNet
namespace Go.Proofs.Ytamkdgjagjpmlaa
open Go.Am
set_option linter.unusedVariables false
set_option linter.unusedSimpArgs false
set_option maxRecDepth 100000
set_option maxHeartbeats 4000000

theorem openedT_A (l : List Vl) (hl : l.length ≤ 1048577) (c : Nat) (a : List Int) (k : Nat) (hk : k ≤ a.length) (ha : a.length ≤ 1048577) (d : Nat) (H : Heap) (t u : Nat) (hS : Sl vlE H t l) (hU : Sl nmE H u a) :
    AFunC Try.prog 28 [.slice (some ⟨t, 0, none⟩) l.length c, .slice (some ⟨u, 0, none⟩) k d] H (.slice (some ⟨H.length, 0, none⟩) l.length 0) (H ++ [some ⟨(opL l (a.take k)).flatMap vlE, true, 54, 4⟩]) := by
  have := opened_A l hl c (a.take k) (by rw [List.length_take]; omega) d 0 H t u hS (IdS.of (hU.take k))
  rwa [List.length_take_of_le hk] at this
theorem wateredO_A (n : Int) (ps : List Pp) (cp : Nat) (l : List Vl) (hg : goodV n ps l = true) (c : Nat) (src : Int) (hsrc : 1 ≤ src ∧ src ≤ n) (ids : List Int) (H : Heap) (tp tv : Nat) (hP : Sl ppE H tp ps) (hV : Sl vlE H tv (opL l ids)) :
    AFunC Try.prog 27 [netV n tp ps.length cp, .slice (some ⟨tv, 0, none⟩) l.length c, .int .i64 src] H (.pointer (some ⟨H.length, 0, none⟩)) (H ++ [some ⟨(wetR ps (opL l ids) src).map .bool, true, 85, 1⟩]) := by
  have := watered_A n ps cp (opL l ids) (goodV_opL hg ids) c src hsrc H tp tv hP hV
  rwa [opL_length] at this
end Go.Proofs.Ytamkdgjagjpmlaa
