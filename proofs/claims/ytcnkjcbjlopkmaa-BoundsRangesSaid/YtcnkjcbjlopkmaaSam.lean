/- Equal lists and tables. -/
import Derived.Test.YtcnkjcbjlopkmaaFw
import Derived.Test.YtcnkjcbjlopkmaaQ11
namespace Go.Proofs.Ytcnkjcbjlopkmaa.Q
open Go.RowKit Go.Proofs.YtcnkjcbjlopkmaaW.PrintWords Go.Proofs.YtcnkjcbjlopkmaaW.PrintLast Go.Proofs.YtcnkjcbjlopkmaaW.PrintMore
set_option linter.unusedVariables false
set_option linter.unusedSimpArgs false
theorem rdL4 {c : List (List Int)} {i : Nat} (h : i < c.length) : rd_L4 c (i : Int) = c[i] := by simp [rd_L4, List.getD_eq_getElem?_getD, h]
end Go.Proofs.Ytcnkjcbjlopkmaa.Q
