/- Take, as a plain function. -/
import Derived.Test.YtcnkjcbjlopkmaaMad
import Derived.Test.YtcnkjcbjlopkmaaQ14
namespace Go.Proofs.Ytcnkjcbjlopkmaa.Q
open Go.RowKit Go.Proofs.YtcnkjcbjlopkmaaW.PrintWords Go.Proofs.YtcnkjcbjlopkmaaW.PrintLast Go.Proofs.YtcnkjcbjlopkmaaW.PrintMore
theorem take_f (l : List Int) (m : Nat) (hm : m ≤ 100) : r01_Take.f l (m : Int) = some (l.take m) := by
 unfold r01_Take.f
 have e : mn (l.length : Int) (m : Int) = ((min l.length m : Nat) : Int) := by unfold mn; split <;> omega
 rw [e, if_pos (by omega), if_pos (by omega), Int.toNat_natCast, if_pos (by simp; omega), List.nil_append]
 congr 1
 rcases Nat.le_total l.length m with h | h
 ·rw [Nat.min_eq_left h, List.take_of_length_le (Nat.le_refl _), List.take_of_length_le h]
 ·rw [Nat.min_eq_right h]
end Go.Proofs.Ytcnkjcbjlopkmaa.Q
