/- Equal lists and tables. -/
import Derived.Test.YtcnkjcbjlopkmaaFw
import Derived.Test.YtcnkjcbjlopkmaaQ11
namespace Go.Proofs.Ytcnkjcbjlopkmaa.Q
open Go.RowKit Go.Proofs.YtcnkjcbjlopkmaaW.PrintWords Go.Proofs.YtcnkjcbjlopkmaaW.PrintLast Go.Proofs.YtcnkjcbjlopkmaaW.PrintMore
set_option linter.unusedVariables false
set_option linter.unusedSimpArgs false
theorem rdL4 {c : List (List Int)} {i : Nat} (h : i < c.length) : rd_L4 c (i : Int) = c[i] := by simp [rd_L4, List.getD_eq_getElem?_getD, h]
theorem sameInts_loop (l : List Int) (hl : l.length ≤ 1000) : ∀ d i, i + d = l.length → Ev (fun k => r01_SameInts.l0 k l l (i : Int)) true
 | 0, i, hi => by
  refine Ev.step (f := fun _ => some true) (fun k => ?_) (Ev.now _)
  unfold r01_SameInts.l0
  rw [if_neg (by omega)]
 | d + 1, i, hi => by
  refine Ev.step (fun k => ?_) (sameInts_loop l hl d (i + 1) (by omega))
  conv => lhs; unfold r01_SameInts.l0
  rw [if_pos (by omega), if_pos (by omega), if_pos rfl, wrap_nat i (by omega)]
  try rw [if_pos (by omega)]
theorem sameInts_f (l : List Int) (hl : l.length ≤ 1000) : Ev (fun k => r01_SameInts.f k l l) true := by
 refine Ev.congr (fun k => ?_) (sameInts_loop l hl l.length 0 (by omega))
 unfold r01_SameInts.f
 rw [if_pos rfl]
 rfl
theorem sameTabs_loop (t : List (List Int)) (hl : t.length ≤ 1000) (hr : ∀ x ∈ t, x.length ≤ 1000) : ∀ d i, i + d = t.length → Ev (fun k => r14_SameTables.l0 k t t (i : Int)) true
  | 0, i, hi => by
    refine Ev.step (f := fun _ => some true) (fun k => ?_) (Ev.now _)
    unfold r14_SameTables.l0
    rw [if_neg (by omega)]
  | d + 1, i, hi => by
    have hlt : i < t.length := by omega
    have hb := Ev.bind (f := fun k (b : Bool) => if b = true then r14_SameTables.l0 k t t ((i + 1 : Nat) : Int) else some false) (sameInts_f t[i] (hr _ (List.getElem_mem hlt))) (r := true) (by simpa using sameTabs_loop t hl hr d (i + 1) (by omega))
    refine Ev.step (fun k => ?_) hb
    conv => lhs; unfold r14_SameTables.l0
    rw [rdL4 hlt, if_pos (by omega), if_pos (by omega), if_pos (by omega), wrap_nat i (by omega)]
theorem sameTabs_f (t : List (List Int)) (hl : t.length ≤ 1000) (hr : ∀ x ∈ t, x.length ≤ 1000) : Ev (fun k => r14_SameTables.f k t t) true := by
  refine Ev.congr (fun k => ?_) (sameTabs_loop t hl hr t.length 0 (by omega))
  unfold r14_SameTables.f
  rw [if_pos rfl]
  rfl
end Go.Proofs.Ytcnkjcbjlopkmaa.Q
