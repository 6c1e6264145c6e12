/- The steps of drawn regions, in few words. -/
import Derived.Test.YtncblopbcnkinaaGreatAm13
namespace Go.Am
open Go.RowKit
set_option linter.unusedVariables false
theorem AAny.one1 {P : Program} {N : Nat} {H0 H Hf : Heap} {ops : Array Oper} {fr : Fr} {Q : APost} {f' : Nat} {listed : Array Bool} {tok' : Tok (P, N, H0, ops, Q, Hf, f', listed)} (fuel i : Nat) (h : vAt P ops i (kAt P N H0 ops Q Hf fuel (listed.setIfInBounds i true)) fr H)
    (hfu : f' = fuel + 1 := by kernel_rfl) (hd : (ops.toList.all fun o => Fr.dstOk N o.dst) = true := by kernel_rfl) (hr : Region.ready .any ops listed = [i] := by kernel_rfl) : AAny P N H0 ops Q Hf f' listed fr H tok' := AAny.one fuel i hfu hd hr h
theorem AAt.of1 {P : Program} {N : Nat} {H0 H Hf : Heap} {ops : Array Oper} {fr : Fr} {Q : APost} {f' : Nat} {listed : Array Bool} {tok : Tok (P, N, H0, ops, Q, Hf, f', listed)} (h2 : AAny P N H0 ops Q Hf f' listed fr H .mk)
    (h1 : SubH Hf H := by first | exact SubH.refl | exact SubH.app | exact SubH.both (by simp [subL])) : AAt P N H0 ops Q Hf f' listed fr H tok := AAt.of h1 h2
end Go.Am
