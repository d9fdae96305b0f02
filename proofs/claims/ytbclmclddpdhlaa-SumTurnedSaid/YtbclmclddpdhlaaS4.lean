/- Words for the walk of SumParts. -/
import Derived.Test.YtbclmclddpdhlaaS3
import Derived.Deep.RegionHeld3
namespace Go.Proofs.Ytbclmclddpdhlaa.S
open Go Go.RowKit Go.Proofs.YtbclmclddpdhlaaW.PrintWords Go.Proofs.YtbclmclddpdhlaaW.PrintLast Go.Proofs.YtbclmclddpdhlaaW.PrintMore
set_option linter.unusedVariables false
set_option linter.unusedSimpArgs false
theorem below_call2 {w W w1 : World} (h : Below w.heap.size w W) (hB : Below W.heap.size W w1) : Below w.heap.size w w1 := h.trans (hB.mono h.size)
theorem CONV {W : World} {A : Option Addr} {n c : Nat} {xs : List Int} (h : Kd.C (Kd.int .u8) W A n xs) : (convert 33 9 (.slice A n c)).run Try.prog W = .ok (.string (strOfNums xs)) W := by
  first
    | exact Kd.C_string Try.underlying33 Try.underlying5 Try.underlying9 h
end Go.Proofs.Ytbclmclddpdhlaa.S
