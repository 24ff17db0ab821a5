import Derived.Test.YtkjafjoknipaiaaQ0
namespace Go.Proofs.Ytkjafjoknipaiaa.Q
open Go.RowKit Go.Proofs.YtkjafjoknipaiaaW.PrintWords Go.Proofs.YtkjafjoknipaiaaW.PrintLast Go.Proofs.YtkjafjoknipaiaaW.PrintMore
set_option linter.unusedVariables false
set_option linter.unusedSimpArgs false
attribute [local go_sem] max2_int min2_int max_two min_two max_three min_three max_four min_four

/-- A number from 0 to m - 1 made of n. -/
def ar (n m : Int) : Int := if m < 1 then 0 else (if n < 0 then -(n + 1) else n) % m
theorem ar_nonneg (n m : Int) : 0 ≤ ar n m := by
  unfold ar
  split
  · omega
  · exact Int.emod_nonneg _ (by omega)
theorem ar_lt (n m : Int) (h : 1 ≤ m) : ar n m < m := by
  unfold ar
  rw [if_neg (by omega)]
  exact Int.emod_lt_of_pos _ (by omega)
def dioramaref01_Around.f (a0 : Int) (a1 : Int) : Option Int :=
  if -9223372036854775808 ≤ a0 ∧ a0 ≤ 9223372036854775807 then some (ar a0 a1) else none
theorem dioramaref01_Around.calls (a0 : Int) (a1 : Int) (r : Int) (w : World) (h : dioramaref01_Around.f a0 a1 = some r) :
    Calls Try.prog 12 #[.int .i64 a0, .int .i64 a1] w fun e w' => e = .returned (.int .i64 r) ∧ Drawn0 w w' := by
  unfold dioramaref01_Around.f at h
  split at h
  case isFalse => cases h
  case isTrue hr =>
    obtain rfl := Option.some.inj h
    clear h
    unfold ar
    by_cases c1 : a1 < 1
    · rw [if_pos c1]
      by_cases c0 : a0 < 0
      all_goals
        go_enter Try.func12, Try.ntmps12
        go_wp2
        go_ret
        exact ⟨rfl, by repeat (first | exact Drawn0.refl _ | apply Drawn0.step)⟩
    · rw [if_neg c1]
      have c2 : (a1 == 0) = false := beq_eq_false_iff_ne.mpr (by omega)
      have c3 : (a1 != 0) = true := bne_iff_ne.mpr (by omega)
      have c4 : ¬ a1 = 0 := by omega
      by_cases c0 : a0 < 0
      · rw [if_pos c0]
        have e1 : wrap64 (-(wrap64 (a0 + 1))) = -(a0 + 1) := by unfold wrap64; omega
        have e2 : (-(a0 + 1)) % a1 = Int.tmod (-(a0 + 1)) a1 := (Int.tmod_eq_emod_of_nonneg (by omega)).symm
        have E : (-(a0 + 1)) % a1 = Int.tmod (wrap64 (-(wrap64 (a0 + 1)))) a1 := by rw [e1, e2]
        have E' := Aside0.mk E
        clear e1 e2 E hr
        rw [E'.out]
        have c0b : decide (a0 < 0) = true := decide_eq_true c0
        have c1b : decide (a1 < 1) = false := decide_eq_false c1
        clear c0 c1
        go_enter Try.func12, Try.ntmps12
        go_wp2
        go_ret
        exact ⟨rfl, by repeat (first | exact Drawn0.refl _ | apply Drawn0.step)⟩
      · rw [if_neg c0]
        have E' := Aside0.mk (Int.tmod_eq_emod_of_nonneg (a := a0) (b := a1) (by omega))
        rw [← E'.out]
        have c0b : decide (a0 < 0) = false := decide_eq_false c0
        have c1b : decide (a1 < 1) = false := decide_eq_false c1
        clear c0 c1 hr
        go_enter Try.func12, Try.ntmps12
        go_wp2
        go_ret
        exact ⟨rfl, by repeat (first | exact Drawn0.refl _ | apply Drawn0.step)⟩

/-- The bound on 'most' by the cost less one. -/
def hidTop (t : Int) : Int := if t = 0 then 12 else if t = 1 then 12 else if t = 2 then 11 else if t = 3 then 8 else if t = 4 then 6 else 5
def dioramaref23_Hiding.f (a0 : Int) (a1 : Int) : Option (Int × Int) :=
  (dioramaref01_Around.f a1 6).bind fun t => if 0 ≤ t ∧ t ≤ 5 then (dioramaref01_Around.f a0 (hidTop t)).bind fun u => if 0 ≤ u ∧ u < hidTop t then some (1 + u, 1 + t) else none else none

theorem hiding_at (t v p : Int) (ht : t = 0 ∧ v = 12 ∧ p = 1 ∨ t = 1 ∧ v = 12 ∧ p = 2 ∨ t = 2 ∧ v = 11 ∧ p = 3 ∨ t = 3 ∧ v = 8 ∧ p = 4 ∨ t = 4 ∧ v = 6 ∧ p = 5 ∨ t = 5 ∧ v = 5 ∧ p = 6) (a0 a1 u : Int) (w : World) (A3 : dioramaref01_Around.f a1 6 = some t) (A6 : dioramaref01_Around.f a0 v = some u) (h0 : 0 ≤ u) (h1 : u ≤ 12) :
    Calls Try.prog 11 #[.int .i64 a0, .int .i64 a1] w fun e w' => e = .returned (.tuple #[.int .i64 (1 + u), .int .i64 p]) ∧ Below w.heap.size w w' := by
  have HB := Aside0.mk (Below.refl w.heap.size w)
  have B3 := Aside0.mk A3
  have B6 := Aside0.mk A6
  clear A3 A6
  rcases ht with ⟨rfl, rfl, rfl⟩ | ⟨rfl, rfl, rfl⟩ | ⟨rfl, rfl, rfl⟩ | ⟨rfl, rfl, rfl⟩ | ⟨rfl, rfl, rfl⟩ | ⟨rfl, rfl, rfl⟩
  all_goals
    go_enter Try.func11, Try.ntmps11
    go_wp2_with fail
    (refine (dioramaref01_Around.calls a1 6 _ _ B3.out).mono ?_); rintro e w' ⟨rfl, ⟨nd, rfl⟩⟩
    go_wp2_with fail
    (refine (dioramaref01_Around.calls a0 _ u _ B6.out).mono ?_); rintro e w' ⟨rfl, ⟨nd, rfl⟩⟩
    go_wp2
    go_ret2
    exact ⟨rfl, by repeat (first | exact HB.out | apply below_alloc | apply pw_below_drewN | apply below_drew1)⟩

theorem dioramaref23_Hiding.calls (a0 : Int) (a1 : Int) (r1 : Int) (r2 : Int) (w : World) (h : dioramaref23_Hiding.f a0 a1 = some (r1, r2)) :
    Calls Try.prog 11 #[.int .i64 a0, .int .i64 a1] w fun e w' => e = .returned (.tuple #[.int .i64 r1, .int .i64 r2]) ∧ Below w.heap.size w w' := by
  unfold dioramaref23_Hiding.f at h
  obtain ⟨t, A3, h⟩ := Option.bind_eq_some_iff.mp h
  split at h
  case isFalse => cases h
  case isTrue ht =>
    obtain ⟨u, A6, h⟩ := Option.bind_eq_some_iff.mp h
    split at h
    case isFalse => cases h
    case isTrue hu =>
      simp only [Option.some.injEq, Prod.mk.injEq] at h
      obtain ⟨rfl, rfl⟩ := h
      refine hiding_at t (hidTop t) (1 + t) ?_ a0 a1 u w A3 A6 hu.1 (by have := hu.2; unfold hidTop at this; (repeat' split at this) <;> omega)
      have : t = 0 ∨ t = 1 ∨ t = 2 ∨ t = 3 ∨ t = 4 ∨ t = 5 := by omega
      rcases this with rfl | rfl | rfl | rfl | rfl | rfl <;> simp [hidTop]
end Go.Proofs.Ytkjafjoknipaiaa.Q
