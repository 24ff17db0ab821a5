import Derived.Test.YtcnkjcbjlopkmaaQ0
namespace Go.Proofs.Ytcnkjcbjlopkmaa.Q
open Go.RowKit Go.Proofs.YtcnkjcbjlopkmaaW.PrintWords Go.Proofs.YtcnkjcbjlopkmaaW.PrintLast Go.Proofs.YtcnkjcbjlopkmaaW.PrintMore
set_option linter.unusedVariables false
set_option linter.unusedSimpArgs false
attribute [local go_sem] max2_int min2_int max_two min_two max_three min_three max_four min_four

/-- A number from 0 to m - 1 made of n. -/
def ar (n m : Int) : Int := if m < 1 then 0 else (if n < 0 then -(n + 1) else n) % m
theorem ar_nonneg (n m : Int) : 0 ≤ ar n m := by
  unfold ar
  split
  · omega
  · exact Int.emod_nonneg _ (by omega)
theorem ar_lt (n m : Int) (h : 1 ≤ m) : ar n m < m := by
  unfold ar
  rw [if_neg (by omega)]
  exact Int.emod_lt_of_pos _ (by omega)
def r01_Around.f (a0 : Int) (a1 : Int) : Option Int :=
  if -9223372036854775808 ≤ a0 ∧ a0 ≤ 9223372036854775807 then some (ar a0 a1) else none
theorem r01_Around.calls (a0 : Int) (a1 : Int) (r : Int) (w : World) (h : r01_Around.f a0 a1 = some r) :
    Calls Try.prog 11 #[.int .i64 a0, .int .i64 a1] w fun e w' => e = .returned (.int .i64 r) ∧ Drawn0 w w' := by
  unfold r01_Around.f at h
  split at h
  case isFalse => cases h
  case isTrue hr =>
    obtain rfl := Option.some.inj h
    clear h
    unfold ar
    by_cases c1 : a1 < 1
    · rw [if_pos c1]
      by_cases c0 : a0 < 0
      all_goals
        go_enter Try.func11, Try.ntmps11
        go_wp2
        go_ret
        exact ⟨rfl, by repeat (first | exact Drawn0.refl _ | apply Drawn0.step)⟩
    · rw [if_neg c1]
      have c2 : (a1 == 0) = false := beq_eq_false_iff_ne.mpr (by omega)
      have c3 : (a1 != 0) = true := bne_iff_ne.mpr (by omega)
      have c4 : ¬ a1 = 0 := by omega
      by_cases c0 : a0 < 0
      · rw [if_pos c0]
        have e1 : wrap64 (-(wrap64 (a0 + 1))) = -(a0 + 1) := by unfold wrap64; omega
        have e2 : (-(a0 + 1)) % a1 = Int.tmod (-(a0 + 1)) a1 := (Int.tmod_eq_emod_of_nonneg (by omega)).symm
        have E : (-(a0 + 1)) % a1 = Int.tmod (wrap64 (-(wrap64 (a0 + 1)))) a1 := by rw [e1, e2]
        have E' := Aside0.mk E
        clear e1 e2 E hr
        rw [E'.out]
        have c0b : decide (a0 < 0) = true := decide_eq_true c0
        have c1b : decide (a1 < 1) = false := decide_eq_false c1
        clear c0 c1
        go_enter Try.func11, Try.ntmps11
        go_wp2
        go_ret
        exact ⟨rfl, by repeat (first | exact Drawn0.refl _ | apply Drawn0.step)⟩
      · rw [if_neg c0]
        have E' := Aside0.mk (Int.tmod_eq_emod_of_nonneg (a := a0) (b := a1) (by omega))
        rw [← E'.out]
        have c0b : decide (a0 < 0) = false := decide_eq_false c0
        have c1b : decide (a1 < 1) = false := decide_eq_false c1
        clear c0 c1 hr
        go_enter Try.func11, Try.ntmps11
        go_wp2
        go_ret
        exact ⟨rfl, by repeat (first | exact Drawn0.refl _ | apply Drawn0.step)⟩

end Go.Proofs.Ytcnkjcbjlopkmaa.Q

