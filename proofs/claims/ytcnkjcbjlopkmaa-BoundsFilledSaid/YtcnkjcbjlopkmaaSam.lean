/- Equal lists and tables. -/
import Derived.Test.YtcnkjcbjlopkmaaFw
import Derived.Test.YtcnkjcbjlopkmaaQ11
namespace Go.Proofs.Ytcnkjcbjlopkmaa.Q
open Go.RowKit Go.Proofs.YtcnkjcbjlopkmaaW.PrintWords Go.Proofs.YtcnkjcbjlopkmaaW.PrintLast Go.Proofs.YtcnkjcbjlopkmaaW.PrintMore
set_option linter.unusedVariables false
set_option linter.unusedSimpArgs false
theorem sameInts_loop (l : List Int) (hl : l.length ≤ 1000) : ∀ d i, i + d = l.length → Ev (fun k => r01_SameInts.l0 k l l (i : Int)) true
 | 0, i, hi => by
  refine Ev.step (f := fun _ => some true) (fun k => ?_) (Ev.now _)
  unfold r01_SameInts.l0
  rw [if_neg (by omega)]
 | d + 1, i, hi => by
  refine Ev.step (fun k => ?_) (sameInts_loop l hl d (i + 1) (by omega))
  conv => lhs; unfold r01_SameInts.l0
  rw [if_pos (by omega), if_pos (by omega), if_pos rfl, wrap_nat i (by omega)]
  try rw [if_pos (by omega)]
theorem sameInts_f (l : List Int) (hl : l.length ≤ 1000) : Ev (fun k => r01_SameInts.f k l l) true := by
 refine Ev.congr (fun k => ?_) (sameInts_loop l hl l.length 0 (by omega))
 unfold r01_SameInts.f
 rw [if_pos rfl]
 rfl
end Go.Proofs.Ytcnkjcbjlopkmaa.Q
