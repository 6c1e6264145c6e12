/- What the meters' laws draw. -/
import Derived.Test.YthnnbgggfpempaaDoorDrawRds
import Derived.Test.YthnnbgggfpempaaDoorDrawBy
namespace Go.Proofs.YthnnbgggfpempaaDoor
open Go.Am
set_option linter.unusedVariables false
set_option linter.unusedSimpArgs false
set_option maxRecDepth 100000
set_option maxHeartbeats 1000000

def PL (H : Heap) (v : Value) (H' : Heap) : Prop := ∃ l : List Rd, v = .slice (some ⟨H.length, 0, none⟩) l.length l.length ∧ l.length ≤ 20 ∧ H' = H ++ [some ⟨l.flatMap rdE, true, 25, 2⟩]
def PLI (H : Heap) (v : Value) (H' : Heap) : Prop := ∃ (l : List Rd) (d : Int), v = .tuple #[.slice (some ⟨H.length, 0, none⟩) l.length l.length, .int .i64 d] ∧ l.length ≤ 20 ∧ H' = H ++ [some ⟨l.flatMap rdE, true, 25, 2⟩]
theorem drawValid_R {H : Heap} {tc n : Nat} (h : Bytes H tc n) (cc : Nat) : AFunR Tryd.prog 64 [.slice (some ⟨tc, 0, none⟩) n cc] H (PL H) := by
  refine AFunR.of_body Tryd.func64 (by kernel_rfl) rfl (by kernel_rfl) (by simp [Tryd.ntmps64]) ?_
  have ht := h.lt
  simp -dsimp -implicitDefEqProofs (disch := omega) [go_sem, -List.getD_eq_getElem?_getD, ite_yes]
  refine ACall.via (meterReadings_R (h.cur cc) (by omega)) ?_
  rintro _ _ ⟨l, a, s, rfl, l1, q1, q1', rfl⟩
  simp -dsimp -implicitDefEqProofs (disch := omega) [go_sem, -List.getD_eq_getElem?_getD, ite_yes]
  refine EndR.of (.slice (some ⟨H.length, 0, none⟩) l.length l.length) _ ⟨l, rfl, l1, rfl⟩ (fin_list [some 1] rfl ?_ (by simp -dsimp -implicitDefEqProofs (disch := omega) [go_sem, -List.getD_eq_getElem?_getD, ite_yes]))
  simp -dsimp -implicitDefEqProofs (disch := omega) [go_sem, -List.getD_eq_getElem?_getD, ite_yes]
  exact .inl ⟨rfl, rdE_flat _⟩
def PAR (H : Heap) (v : Value) (H' : Heap) : Prop := ∃ (l : List Rd) (r : Rd) (m : Int), v = .tuple #[.slice (some ⟨H.length, 0, none⟩) l.length l.length, .agg #[.int .i64 r.1, .int .i64 r.2], .int .i64 m] ∧ l.length ≤ 20 ∧ H' = H ++ [some ⟨l.flatMap rdE, true, 25, 2⟩]
end Go.Proofs.YthnnbgggfpempaaDoor
