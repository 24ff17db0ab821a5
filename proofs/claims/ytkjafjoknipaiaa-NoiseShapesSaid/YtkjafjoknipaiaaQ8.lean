-- Written out of the translation by a program of this session (wip/tools/myprint.py, over the kit's print). Lean checks it.
import Derived.Test.YtkjafjoknipaiaaHand
import Derived.Test.YtkjafjoknipaiaaHid
import Derived.Test.YtkjafjoknipaiaaQ0
import Derived.Test.YtkjafjoknipaiaaQ4
namespace Go.Proofs.Ytkjafjoknipaiaa.Q
open Go.RowKit Go.Proofs.YtkjafjoknipaiaaW.PrintWords Go.Proofs.YtkjafjoknipaiaaW.PrintLast Go.Proofs.YtkjafjoknipaiaaW.PrintMore
attribute [local go_sem] max2_int min2_int max_two min_two max_three min_three max_four min_four   -- for this text's walks alone
set_option linter.unusedVariables false
set_option linter.unusedSimpArgs false

/-! ### dioramaref23_Sum: function 15 -/
def dioramaref23_Sum.l0 : Nat → List Int → Int → Int → Option (Int)
  | 0, _, _, _ => none
  | k + 1, x0, x3, x4 => if x4 < (x0.length : Int) then (if 0 ≤ x4 then (dioramaref23_Sum.l0 k x0 (wrap64 (x3 + (rd x0 x4))) (wrap64 (x4 + 1))) else (none)) else (some x3)
def dioramaref23_Sum.f (k : Nat) (l0 : List Int) : Option (Int) := dioramaref23_Sum.l0 k l0 0 0
theorem dioramaref23_Sum.mono_l : ∀ k, (∀ y0 y1 y2, LeO (dioramaref23_Sum.l0 k y0 y1 y2) (dioramaref23_Sum.l0 (k + 1) y0 y1 y2))
  | 0 => fun _ _ _ r h => by simp [dioramaref23_Sum.l0] at h
  | k + 1 => by
    have ih0 := dioramaref23_Sum.mono_l k
    · intro y0 y1 y2
      unfold dioramaref23_Sum.l0
      repeat' first
      | (with_reducible exact ih0 _ _ _)
      | (with_reducible exact LeO.refl _)
      | (with_reducible exact LeO.none _)
      | (with_reducible refine LeO.ite ?_ ?_)
      | (with_reducible refine LeO.bind ?_ (fun _ => ?_))
      | exact ih0 _ _ _
      | exact LeO.none _
      | refine LeO.ite ?_ ?_
      | refine LeO.bind ?_ (fun _ => ?_)
theorem dioramaref23_Sum.mono : ∀ a0 k, LeO (dioramaref23_Sum.f k a0) (dioramaref23_Sum.f (k + 1) a0) := by
  intro a0 k
  have ih0 := dioramaref23_Sum.mono_l k
  unfold dioramaref23_Sum.f
  repeat' first
      | (with_reducible exact ih0 _ _ _)
      | (with_reducible exact LeO.refl _)
      | (with_reducible exact LeO.none _)
      | (with_reducible refine LeO.ite ?_ ?_)
      | (with_reducible refine LeO.bind ?_ (fun _ => ?_))
      | exact ih0 _ _ _
      | exact LeO.none _
      | refine LeO.ite ?_ ?_
      | refine LeO.bind ?_ (fun _ => ?_)
set_option maxHeartbeats 8000000 in
set_option maxRecDepth 100000 in
theorem dioramaref23_Sum.calls (k : Nat) (A0 : Option Addr) (c0 : Nat) (l0 : List Int) (r : Int) (w : World) (hr0 : Kd.C (Kd.int .i64) w A0 l0.length l0) (hc0 : l0.length ≤ c0) (h : dioramaref23_Sum.f k l0 = some r) :
    Calls Try.prog 15 #[.slice A0 l0.length c0] w fun e w' => e = .returned (.int .i64 r) ∧ Drawn0 w w' := by
  have HR0 := Aside0.mk hr0
  have HC0 := Aside0.mk hc0
  clear hr0 hc0
  have H : (dioramaref23_Sum.l0 k l0 0 0) = some r := h
  clear h
  have H' := Aside0.mk H
  clear H
  go_enter Try.func15, Try.ntmps15
  go_wp2
  go_loopg [3, 4] k (fun kq v3 v4 w' => ∃ (x3_1 : Int) (x4_1 : Int), v3 = .int .i64 x3_1 ∧ v4 = .int .i64 x4_1 ∧ Aside0 (dioramaref23_Sum.l0 kq l0 x3_1 x4_1 = some r) ∧ Aside0 (kq ≤ k) ∧ Drawn0 w w')
  case atStart => exact ⟨(0), (0), (by first | rfl | (simp; done) | (simp [*]; done)), (by first | rfl | (simp; done) | (simp [*]; done)), H', ⟨Nat.le_refl _⟩, by repeat (first | exact Drawn0.refl _ | apply Drawn0.step)⟩
  case round =>
    clear H'
    try clear c1
    obtain ⟨x3_1, x4_1, rfl, rfl, HA, HK1, ⟨m1, rfl⟩⟩ := hrel
    cases gk with
    | zero => exact absurd HA.out (by simp [dioramaref23_Sum.l0])
    | succ k1 =>
      have H := HA.out
      clear HA
      simp only [dioramaref23_Sum.l0] at H
      by_cases c2 : x4_1 < (l0.length : Int)
      · rw [if_pos c2] at H
        have c2b0 : decide (x4_1 < (l0.length : Int)) = true := decide_eq_true c2
        clear c2
        by_cases c3 : 0 ≤ x4_1
        · rw [if_pos c3] at H
          have c3b0 : decide (0 ≤ x4_1) = true := decide_eq_true c3
          clear c3
          have H' := Aside0.mk H
          clear H
          have p203 : 0 ≤ (x4_1 : Int) := of_decide_eq_true (by first | (with_reducible assumption) | assumption)
          have q203 : x4_1 < (l0.length : Int) := of_decide_eq_true (by first | (with_reducible assumption) | assumption)
          obtain ⟨ad203, e203, hx203_0⟩ := Kd.at_int HR0.out x4_1 p203 q203
          cases e203
          replace p203 := eq_true p203
          replace q203 := eq_true q203
          go_wp2
          go_roundg k1
          case measure => have := HK1.out; omega
          case rel => exact ⟨(wrap64 (x3_1 + (rd l0 x4_1))), (wrap64 (x4_1 + 1)), (by first | rfl | (simp; done) | (simp [*]; done)), (by first | rfl | (simp; done) | (simp [*]; done)), H', ⟨by have := HK1.out; omega⟩, by repeat (first | exact Drawn0.refl _ | apply Drawn0.step)⟩
        · rw [if_neg c3] at H
          exact absurd H (by simp)
      · rw [if_neg c2] at H
        have c2b0 : decide (x4_1 < (l0.length : Int)) = false := decide_eq_false c2
        clear c2
        obtain rfl := Option.some.inj H
        go_wp2
        go_ret
        exact ⟨by first | rfl | (simp; done) | (simp [*]; done), by repeat (first | exact Drawn0.refl _ | apply Drawn0.step)⟩

/-! ### dioramalaw23_NoiseShapes: function 5 -/
mutual
def dioramalaw23_NoiseShapes.j0 : Nat → Int → Int → List Int → List Int → Bool → Option (Bool)
  | 0, _, _, _, _, _ => none
  | k + 1, x7, x9, x10, x12, x74 => if x74 = true then (some false) else (dioramalaw23_NoiseShapes.l0 k x7 x9 x10 x12 0)
def dioramalaw23_NoiseShapes.l0 : Nat → Int → Int → List Int → List Int → Int → Option (Bool)
  | 0, _, _, _, _, _ => none
  | k + 1, x7, x9, x10, x12, x14 => if x14 ≤ x7 then (if 0 ≤ x14 then (if x14 < (x10.length : Int) then (if (rd x10 x14) ≤ 0 then (dioramalaw23_NoiseShapes.j2 k x7 x9 x10 x12 x14 true) else (if 0 ≤ (wrap64 (x7 - x14)) then (if (wrap64 (x7 - x14)) < (x12.length : Int) then (dioramalaw23_NoiseShapes.j2 k x7 x9 x10 x12 x14 ((rd x10 x14) != (rd x12 (wrap64 (x7 - x14))))) else (none)) else (none))) else (none)) else (none)) else ((dioramalaw23_lives.f k).bind fun t216 => (some t216))
def dioramalaw23_NoiseShapes.j2 : Nat → Int → Int → List Int → List Int → Int → Bool → Option (Bool)
  | 0, _, _, _, _, _, _ => none
  | k + 1, x7, x9, x10, x12, x14, x97 => if x97 = true then (some false) else (if x14 > 1 then (if x14 < x7 then (if x14 ≤ x9 then (if 0 ≤ (wrap64 (x14 - 1)) then (if (wrap64 (x14 - 1)) < (x10.length : Int) then (if 0 ≤ x14 then (if x14 < (x10.length : Int) then (if (rd x10 (wrap64 (x14 - 1))) > (rd x10 x14) then (some false) else (if x14 > x9 then (if (rd x10 (wrap64 (x14 - 1))) < (rd x10 x14) then (some false) else (dioramalaw23_NoiseShapes.l0 k x7 x9 x10 x12 (wrap64 (x14 + 1)))) else (dioramalaw23_NoiseShapes.l0 k x7 x9 x10 x12 (wrap64 (x14 + 1))))) else (none)) else (none)) else (none)) else (none)) else (if x14 > x9 then (if 0 ≤ (wrap64 (x14 - 1)) then (if (wrap64 (x14 - 1)) < (x10.length : Int) then (if 0 ≤ x14 then (if x14 < (x10.length : Int) then (if (rd x10 (wrap64 (x14 - 1))) < (rd x10 x14) then (some false) else (dioramalaw23_NoiseShapes.l0 k x7 x9 x10 x12 (wrap64 (x14 + 1)))) else (none)) else (none)) else (none)) else (none)) else (dioramalaw23_NoiseShapes.l0 k x7 x9 x10 x12 (wrap64 (x14 + 1))))) else (dioramalaw23_NoiseShapes.l0 k x7 x9 x10 x12 (wrap64 (x14 + 1)))) else (dioramalaw23_NoiseShapes.l0 k x7 x9 x10 x12 (wrap64 (x14 + 1))))
end
def dioramalaw23_NoiseShapes.f (k : Nat) (a0 : Int) (a1 : Int) (a2 : Int) : Option (Bool) := (dioramaref23_Hiding.f a1 a2).bind fun bt204 => ((dioramaref01_Around.f a0 (wrap64 (bt204.1 + 1))).bind fun t206 => ((noise_Weights.f t206 bt204.1 bt204.2).bind fun bt207 => ((noise_Weights.f (wrap64 (bt204.1 - t206)) bt204.1 bt204.2).bind fun bt211 => (if bt207.2 = 0 then (if bt211.2 = 0 then (if (bt207.1.length : Int) = (wrap64 (bt204.1 + 1)) then (if (bt211.1.length : Int) = (wrap64 (bt204.1 + 1)) then ((dioramaref23_Sum.f k bt207.1).bind fun t215 => (if 0 ≤ (IntKind.u64.wrap (bt204.2)) then (if 0 ≤ (IntKind.u64.wrap (wrap64 (bt204.2 * bt204.1))) then (dioramalaw23_NoiseShapes.j0 k bt204.1 t206 bt207.1 bt211.1 (t215 != (shl .i64 (wrap64 ((shl .i64 1 (IntKind.u64.wrap (bt204.2))) + 1)) (IntKind.u64.wrap (wrap64 (bt204.2 * bt204.1)))))) else (none)) else (none))) else (dioramalaw23_NoiseShapes.j0 k bt204.1 t206 bt207.1 bt211.1 true)) else (dioramalaw23_NoiseShapes.j0 k bt204.1 t206 bt207.1 bt211.1 true)) else (dioramalaw23_NoiseShapes.j0 k bt204.1 t206 bt207.1 bt211.1 true)) else (dioramalaw23_NoiseShapes.j0 k bt204.1 t206 bt207.1 bt211.1 true)))))
theorem dioramalaw23_NoiseShapes.mono_l : ∀ k, (∀ y0 y1 y2 y3 y4, LeO (dioramalaw23_NoiseShapes.j0 k y0 y1 y2 y3 y4) (dioramalaw23_NoiseShapes.j0 (k + 1) y0 y1 y2 y3 y4)) ∧ (∀ y0 y1 y2 y3 y4, LeO (dioramalaw23_NoiseShapes.l0 k y0 y1 y2 y3 y4) (dioramalaw23_NoiseShapes.l0 (k + 1) y0 y1 y2 y3 y4)) ∧ (∀ y0 y1 y2 y3 y4 y5, LeO (dioramalaw23_NoiseShapes.j2 k y0 y1 y2 y3 y4 y5) (dioramalaw23_NoiseShapes.j2 (k + 1) y0 y1 y2 y3 y4 y5))
  | 0 => ⟨fun _ _ _ _ _ r h => by simp [dioramalaw23_NoiseShapes.j0] at h, fun _ _ _ _ _ r h => by simp [dioramalaw23_NoiseShapes.l0] at h, fun _ _ _ _ _ _ r h => by simp [dioramalaw23_NoiseShapes.j2] at h⟩
  | k + 1 => by
    obtain ⟨ih0, ih1, ih2⟩ := dioramalaw23_NoiseShapes.mono_l k
    refine ⟨?_, ?_, ?_⟩
    · intro y0 y1 y2 y3 y4
      unfold dioramalaw23_NoiseShapes.j0
      repeat' first
      | (with_reducible exact ih0 _ _ _ _ _)
      | (with_reducible exact ih1 _ _ _ _ _)
      | (with_reducible exact ih2 _ _ _ _ _ _)
      | (with_reducible exact dioramalaw23_lives.mono _)
      | (with_reducible exact dioramaref23_Sum.mono _ _)
      | (with_reducible exact LeO.refl _)
      | (with_reducible exact LeO.none _)
      | (with_reducible refine LeO.ite ?_ ?_)
      | (with_reducible refine LeO.bind ?_ (fun _ => ?_))
      | exact ih0 _ _ _ _ _
      | exact ih1 _ _ _ _ _
      | exact ih2 _ _ _ _ _ _
      | exact dioramalaw23_lives.mono _
      | exact dioramaref23_Sum.mono _ _
      | exact LeO.none _
      | refine LeO.ite ?_ ?_
      | refine LeO.bind ?_ (fun _ => ?_)
    · intro y0 y1 y2 y3 y4
      unfold dioramalaw23_NoiseShapes.l0
      repeat' first
      | (with_reducible exact ih0 _ _ _ _ _)
      | (with_reducible exact ih1 _ _ _ _ _)
      | (with_reducible exact ih2 _ _ _ _ _ _)
      | (with_reducible exact dioramalaw23_lives.mono _)
      | (with_reducible exact dioramaref23_Sum.mono _ _)
      | (with_reducible exact LeO.refl _)
      | (with_reducible exact LeO.none _)
      | (with_reducible refine LeO.ite ?_ ?_)
      | (with_reducible refine LeO.bind ?_ (fun _ => ?_))
      | exact ih0 _ _ _ _ _
      | exact ih1 _ _ _ _ _
      | exact ih2 _ _ _ _ _ _
      | exact dioramalaw23_lives.mono _
      | exact dioramaref23_Sum.mono _ _
      | exact LeO.none _
      | refine LeO.ite ?_ ?_
      | refine LeO.bind ?_ (fun _ => ?_)
    · intro y0 y1 y2 y3 y4 y5
      unfold dioramalaw23_NoiseShapes.j2
      repeat' first
      | (with_reducible exact ih0 _ _ _ _ _)
      | (with_reducible exact ih1 _ _ _ _ _)
      | (with_reducible exact ih2 _ _ _ _ _ _)
      | (with_reducible exact dioramalaw23_lives.mono _)
      | (with_reducible exact dioramaref23_Sum.mono _ _)
      | (with_reducible exact LeO.refl _)
      | (with_reducible exact LeO.none _)
      | (with_reducible refine LeO.ite ?_ ?_)
      | (with_reducible refine LeO.bind ?_ (fun _ => ?_))
      | exact ih0 _ _ _ _ _
      | exact ih1 _ _ _ _ _
      | exact ih2 _ _ _ _ _ _
      | exact dioramalaw23_lives.mono _
      | exact dioramaref23_Sum.mono _ _
      | exact LeO.none _
      | refine LeO.ite ?_ ?_
      | refine LeO.bind ?_ (fun _ => ?_)
theorem dioramalaw23_NoiseShapes.mono : ∀ a0 a1 a2 k, LeO (dioramalaw23_NoiseShapes.f k a0 a1 a2) (dioramalaw23_NoiseShapes.f (k + 1) a0 a1 a2) := by
  intro a0 a1 a2 k
  obtain ⟨ih0, ih1, ih2⟩ := dioramalaw23_NoiseShapes.mono_l k
  unfold dioramalaw23_NoiseShapes.f
  repeat' first
      | (with_reducible exact ih0 _ _ _ _ _)
      | (with_reducible exact ih1 _ _ _ _ _)
      | (with_reducible exact ih2 _ _ _ _ _ _)
      | (with_reducible exact dioramalaw23_lives.mono _)
      | (with_reducible exact dioramaref23_Sum.mono _ _)
      | (with_reducible exact LeO.refl _)
      | (with_reducible exact LeO.none _)
      | (with_reducible refine LeO.ite ?_ ?_)
      | (with_reducible refine LeO.bind ?_ (fun _ => ?_))
      | exact ih0 _ _ _ _ _
      | exact ih1 _ _ _ _ _
      | exact ih2 _ _ _ _ _ _
      | exact dioramalaw23_lives.mono _
      | exact dioramaref23_Sum.mono _ _
      | exact LeO.none _
      | refine LeO.ite ?_ ?_
      | refine LeO.bind ?_ (fun _ => ?_)
set_option maxHeartbeats 8000000 in
set_option maxRecDepth 100000 in
theorem dioramalaw23_NoiseShapes.calls (k : Nat) (a0 : Int) (a1 : Int) (a2 : Int) (r : Bool) (w : World) (h : dioramalaw23_NoiseShapes.f k a0 a1 a2 = some r) :
    Calls Try.prog 5 #[.int .i64 a0, .int .i64 a1, .int .i64 a2] w fun e w' => e = .returned (.bool r) ∧ Below w.heap.size w w' := by
  have HB := Aside0.mk (Below.refl w.heap.size w)
  have H : ((dioramaref23_Hiding.f a1 a2).bind fun bt204 => ((dioramaref01_Around.f a0 (wrap64 (bt204.1 + 1))).bind fun t206 => ((noise_Weights.f t206 bt204.1 bt204.2).bind fun bt207 => ((noise_Weights.f (wrap64 (bt204.1 - t206)) bt204.1 bt204.2).bind fun bt211 => (if bt207.2 = 0 then (if bt211.2 = 0 then (if (bt207.1.length : Int) = (wrap64 (bt204.1 + 1)) then (if (bt211.1.length : Int) = (wrap64 (bt204.1 + 1)) then ((dioramaref23_Sum.f k bt207.1).bind fun t215 => (if 0 ≤ (IntKind.u64.wrap (bt204.2)) then (if 0 ≤ (IntKind.u64.wrap (wrap64 (bt204.2 * bt204.1))) then (dioramalaw23_NoiseShapes.j0 k bt204.1 t206 bt207.1 bt211.1 (t215 != (shl .i64 (wrap64 ((shl .i64 1 (IntKind.u64.wrap (bt204.2))) + 1)) (IntKind.u64.wrap (wrap64 (bt204.2 * bt204.1)))))) else (none)) else (none))) else (dioramalaw23_NoiseShapes.j0 k bt204.1 t206 bt207.1 bt211.1 true)) else (dioramalaw23_NoiseShapes.j0 k bt204.1 t206 bt207.1 bt211.1 true)) else (dioramalaw23_NoiseShapes.j0 k bt204.1 t206 bt207.1 bt211.1 true)) else (dioramalaw23_NoiseShapes.j0 k bt204.1 t206 bt207.1 bt211.1 true)))))) = some r := h
  clear h
  replace H := Option.bind_eq_some_iff.mp H
  obtain ⟨⟨t204, t205⟩, A40, H⟩ := H
  replace H : ((dioramaref01_Around.f a0 (wrap64 (t204 + 1))).bind fun t206 => ((noise_Weights.f t206 t204 t205).bind fun bt207 => ((noise_Weights.f (wrap64 (t204 - t206)) t204 t205).bind fun bt211 => (if bt207.2 = 0 then (if bt211.2 = 0 then (if (bt207.1.length : Int) = (wrap64 (t204 + 1)) then (if (bt211.1.length : Int) = (wrap64 (t204 + 1)) then ((dioramaref23_Sum.f k bt207.1).bind fun t215 => (if 0 ≤ (IntKind.u64.wrap (t205)) then (if 0 ≤ (IntKind.u64.wrap (wrap64 (t205 * t204))) then (dioramalaw23_NoiseShapes.j0 k t204 t206 bt207.1 bt211.1 (t215 != (shl .i64 (wrap64 ((shl .i64 1 (IntKind.u64.wrap (t205))) + 1)) (IntKind.u64.wrap (wrap64 (t205 * t204)))))) else (none)) else (none))) else (dioramalaw23_NoiseShapes.j0 k t204 t206 bt207.1 bt211.1 true)) else (dioramalaw23_NoiseShapes.j0 k t204 t206 bt207.1 bt211.1 true)) else (dioramalaw23_NoiseShapes.j0 k t204 t206 bt207.1 bt211.1 true)) else (dioramalaw23_NoiseShapes.j0 k t204 t206 bt207.1 bt211.1 true))))) = some r := H
  have A4 := Aside0.mk A40
  clear A40
  replace H := Option.bind_eq_some_iff.mp H
  obtain ⟨t206, A50, H⟩ := H
  replace H : ((noise_Weights.f t206 t204 t205).bind fun bt207 => ((noise_Weights.f (wrap64 (t204 - t206)) t204 t205).bind fun bt211 => (if bt207.2 = 0 then (if bt211.2 = 0 then (if (bt207.1.length : Int) = (wrap64 (t204 + 1)) then (if (bt211.1.length : Int) = (wrap64 (t204 + 1)) then ((dioramaref23_Sum.f k bt207.1).bind fun t215 => (if 0 ≤ (IntKind.u64.wrap (t205)) then (if 0 ≤ (IntKind.u64.wrap (wrap64 (t205 * t204))) then (dioramalaw23_NoiseShapes.j0 k t204 t206 bt207.1 bt211.1 (t215 != (shl .i64 (wrap64 ((shl .i64 1 (IntKind.u64.wrap (t205))) + 1)) (IntKind.u64.wrap (wrap64 (t205 * t204)))))) else (none)) else (none))) else (dioramalaw23_NoiseShapes.j0 k t204 t206 bt207.1 bt211.1 true)) else (dioramalaw23_NoiseShapes.j0 k t204 t206 bt207.1 bt211.1 true)) else (dioramalaw23_NoiseShapes.j0 k t204 t206 bt207.1 bt211.1 true)) else (dioramalaw23_NoiseShapes.j0 k t204 t206 bt207.1 bt211.1 true)))) = some r := H
  have A5 := Aside0.mk A50
  clear A50
  replace H := Option.bind_eq_some_iff.mp H
  obtain ⟨⟨t207, t208⟩, A60, H⟩ := H
  replace H : ((noise_Weights.f (wrap64 (t204 - t206)) t204 t205).bind fun bt211 => (if t208 = 0 then (if bt211.2 = 0 then (if (t207.length : Int) = (wrap64 (t204 + 1)) then (if (bt211.1.length : Int) = (wrap64 (t204 + 1)) then ((dioramaref23_Sum.f k t207).bind fun t215 => (if 0 ≤ (IntKind.u64.wrap (t205)) then (if 0 ≤ (IntKind.u64.wrap (wrap64 (t205 * t204))) then (dioramalaw23_NoiseShapes.j0 k t204 t206 t207 bt211.1 (t215 != (shl .i64 (wrap64 ((shl .i64 1 (IntKind.u64.wrap (t205))) + 1)) (IntKind.u64.wrap (wrap64 (t205 * t204)))))) else (none)) else (none))) else (dioramalaw23_NoiseShapes.j0 k t204 t206 t207 bt211.1 true)) else (dioramalaw23_NoiseShapes.j0 k t204 t206 t207 bt211.1 true)) else (dioramalaw23_NoiseShapes.j0 k t204 t206 t207 bt211.1 true)) else (dioramalaw23_NoiseShapes.j0 k t204 t206 t207 bt211.1 true))) = some r := H
  have A6 := Aside0.mk A60
  clear A60
  replace H := Option.bind_eq_some_iff.mp H
  obtain ⟨⟨t211, t212⟩, A70, H⟩ := H
  replace H : (if t208 = 0 then (if t212 = 0 then (if (t207.length : Int) = (wrap64 (t204 + 1)) then (if (t211.length : Int) = (wrap64 (t204 + 1)) then ((dioramaref23_Sum.f k t207).bind fun t215 => (if 0 ≤ (IntKind.u64.wrap (t205)) then (if 0 ≤ (IntKind.u64.wrap (wrap64 (t205 * t204))) then (dioramalaw23_NoiseShapes.j0 k t204 t206 t207 t211 (t215 != (shl .i64 (wrap64 ((shl .i64 1 (IntKind.u64.wrap (t205))) + 1)) (IntKind.u64.wrap (wrap64 (t205 * t204)))))) else (none)) else (none))) else (dioramalaw23_NoiseShapes.j0 k t204 t206 t207 t211 true)) else (dioramalaw23_NoiseShapes.j0 k t204 t206 t207 t211 true)) else (dioramalaw23_NoiseShapes.j0 k t204 t206 t207 t211 true)) else (dioramalaw23_NoiseShapes.j0 k t204 t206 t207 t211 true)) = some r := H
  have A7 := Aside0.mk A70
  clear A70
  have HC8 := Aside0.mk H
  clear H
  go_enter Try.func5, Try.ntmps5
  go_upto_region 5 with (first | (go_at_call 11; (with_reducible refine (dioramaref23_Hiding.calls a1 a2 t204 t205 _ A4.out).mono ?_); rintro e w9 ⟨rfl, hb⟩; have n0_ := Aside0.mk (below_step (by repeat (first | (with_reducible first | exact HB.out | apply below_alloc | apply pw_below_drewN | apply below_drew1) | exact HB.out)) hb); clear HB; have HB := n0_; clear n0_; (try clear hb); (try clear hb2); (try clear hk); (try clear hi)) | (go_at_call 12; (with_reducible refine (dioramaref01_Around.calls a0 (wrap64 (t204 + 1)) t206 _ A5.out).mono ?_); rintro e w' ⟨rfl, ⟨nd, rfl⟩⟩; (try first | exact ⟨rfl, _, World.drewN_drewN _ _ _⟩ | exact ⟨rfl, _, Eq.trans (World.drewN_drewN _ _ _) (congrArg (World.drewN _) (Nat.add_assoc _ _ _))⟩)) | (go_at_call 7; (with_reducible refine (noise_Weights.calls t206 t204 t205 t207 t208 _ A6.out).mono ?_); rintro e w10 ⟨v209, rfl, ho0, hb⟩; have n0_ := Aside0.mk (Kd.R_lower ho0 (below_size (by repeat (first | (with_reducible first | exact HB.out | apply below_alloc | apply pw_below_drewN | apply below_drew1) | exact HB.out)))); have n1_ := Aside0.mk (below_step (by repeat (first | (with_reducible first | exact HB.out | apply below_alloc | apply pw_below_drewN | apply below_drew1) | exact HB.out)) hb); clear HB; have HO210 := n0_; have HB := n1_; clear n0_ n1_; (try clear hb); (try clear hb2); (try clear hk); (try clear hi); (try clear ho0)) | (go_at_call 7; (with_reducible refine (noise_Weights.calls (wrap64 (t204 - t206)) t204 t205 t211 t212 _ A7.out).mono ?_); rintro e w11 ⟨v213, rfl, ho0, hb⟩; have n0_ := Aside0.mk (Kd.R_elder' (by (with_reducible repeat (first | apply Kd.R_alloc | apply Kd.R_drewN | apply Kd.R_drew)); exact HO210.out) (Kd.R_base ho0) hb); have n1_ := Aside0.mk (Kd.R_lower (Kd.R_new' ho0 (Kd.R_lt (by (with_reducible repeat (first | apply Kd.R_alloc | apply Kd.R_drewN | apply Kd.R_drew)); exact HO210.out))) (below_size (by repeat (first | (with_reducible first | exact HB.out | apply below_alloc | apply pw_below_drewN | apply below_drew1) | exact HB.out)))); have n2_ := Aside0.mk (below_step (by repeat (first | (with_reducible first | exact HB.out | apply below_alloc | apply pw_below_drewN | apply below_drew1) | exact HB.out)) hb); clear HO210; clear HB; have HO210 := n0_; have HO214 := n1_; have HB := n2_; clear n0_ n1_ n2_; (try clear hb); (try clear hb2); (try clear hk); (try clear hi); (try clear ho0)))
  repeat (go_quiet (first | (go_at_call 11; (with_reducible refine (dioramaref23_Hiding.calls a1 a2 t204 t205 _ A4.out).mono ?_); rintro e w9 ⟨rfl, hb⟩; have n0_ := Aside0.mk (below_step (by repeat (first | (with_reducible first | exact HB.out | apply below_alloc | apply pw_below_drewN | apply below_drew1) | exact HB.out)) hb); clear HB; have HB := n0_; clear n0_; (try clear hb); (try clear hb2); (try clear hk); (try clear hi)) | (go_at_call 12; (with_reducible refine (dioramaref01_Around.calls a0 (wrap64 (t204 + 1)) t206 _ A5.out).mono ?_); rintro e w' ⟨rfl, ⟨nd, rfl⟩⟩; (try first | exact ⟨rfl, _, World.drewN_drewN _ _ _⟩ | exact ⟨rfl, _, Eq.trans (World.drewN_drewN _ _ _) (congrArg (World.drewN _) (Nat.add_assoc _ _ _))⟩)) | (go_at_call 7; (with_reducible refine (noise_Weights.calls t206 t204 t205 t207 t208 _ A6.out).mono ?_); rintro e w10 ⟨v209, rfl, ho0, hb⟩; have n0_ := Aside0.mk (Kd.R_lower ho0 (below_size (by repeat (first | (with_reducible first | exact HB.out | apply below_alloc | apply pw_below_drewN | apply below_drew1) | exact HB.out)))); have n1_ := Aside0.mk (below_step (by repeat (first | (with_reducible first | exact HB.out | apply below_alloc | apply pw_below_drewN | apply below_drew1) | exact HB.out)) hb); clear HB; have HO210 := n0_; have HB := n1_; clear n0_ n1_; (try clear hb); (try clear hb2); (try clear hk); (try clear hi); (try clear ho0)) | (go_at_call 7; (with_reducible refine (noise_Weights.calls (wrap64 (t204 - t206)) t204 t205 t211 t212 _ A7.out).mono ?_); rintro e w11 ⟨v213, rfl, ho0, hb⟩; have n0_ := Aside0.mk (Kd.R_elder' (by (with_reducible repeat (first | apply Kd.R_alloc | apply Kd.R_drewN | apply Kd.R_drew)); exact HO210.out) (Kd.R_base ho0) hb); have n1_ := Aside0.mk (Kd.R_lower (Kd.R_new' ho0 (Kd.R_lt (by (with_reducible repeat (first | apply Kd.R_alloc | apply Kd.R_drewN | apply Kd.R_drew)); exact HO210.out))) (below_size (by repeat (first | (with_reducible first | exact HB.out | apply below_alloc | apply pw_below_drewN | apply below_drew1) | exact HB.out)))); have n2_ := Aside0.mk (below_step (by repeat (first | (with_reducible first | exact HB.out | apply below_alloc | apply pw_below_drewN | apply below_drew1) | exact HB.out)) hb); clear HO210; clear HB; have HO210 := n0_; have HO214 := n1_; have HB := n2_; clear n0_ n1_ n2_; (try clear hb); (try clear hb2); (try clear hk); (try clear hi); (try clear ho0))); go_upto_region 5 with (first | (go_at_call 11; (with_reducible refine (dioramaref23_Hiding.calls a1 a2 t204 t205 _ A4.out).mono ?_); rintro e w9 ⟨rfl, hb⟩; have n0_ := Aside0.mk (below_step (by repeat (first | (with_reducible first | exact HB.out | apply below_alloc | apply pw_below_drewN | apply below_drew1) | exact HB.out)) hb); clear HB; have HB := n0_; clear n0_; (try clear hb); (try clear hb2); (try clear hk); (try clear hi)) | (go_at_call 12; (with_reducible refine (dioramaref01_Around.calls a0 (wrap64 (t204 + 1)) t206 _ A5.out).mono ?_); rintro e w' ⟨rfl, ⟨nd, rfl⟩⟩; (try first | exact ⟨rfl, _, World.drewN_drewN _ _ _⟩ | exact ⟨rfl, _, Eq.trans (World.drewN_drewN _ _ _) (congrArg (World.drewN _) (Nat.add_assoc _ _ _))⟩)) | (go_at_call 7; (with_reducible refine (noise_Weights.calls t206 t204 t205 t207 t208 _ A6.out).mono ?_); rintro e w10 ⟨v209, rfl, ho0, hb⟩; have n0_ := Aside0.mk (Kd.R_lower ho0 (below_size (by repeat (first | (with_reducible first | exact HB.out | apply below_alloc | apply pw_below_drewN | apply below_drew1) | exact HB.out)))); have n1_ := Aside0.mk (below_step (by repeat (first | (with_reducible first | exact HB.out | apply below_alloc | apply pw_below_drewN | apply below_drew1) | exact HB.out)) hb); clear HB; have HO210 := n0_; have HB := n1_; clear n0_ n1_; (try clear hb); (try clear hb2); (try clear hk); (try clear hi); (try clear ho0)) | (go_at_call 7; (with_reducible refine (noise_Weights.calls (wrap64 (t204 - t206)) t204 t205 t211 t212 _ A7.out).mono ?_); rintro e w11 ⟨v213, rfl, ho0, hb⟩; have n0_ := Aside0.mk (Kd.R_elder' (by (with_reducible repeat (first | apply Kd.R_alloc | apply Kd.R_drewN | apply Kd.R_drew)); exact HO210.out) (Kd.R_base ho0) hb); have n1_ := Aside0.mk (Kd.R_lower (Kd.R_new' ho0 (Kd.R_lt (by (with_reducible repeat (first | apply Kd.R_alloc | apply Kd.R_drewN | apply Kd.R_drew)); exact HO210.out))) (below_size (by repeat (first | (with_reducible first | exact HB.out | apply below_alloc | apply pw_below_drewN | apply below_drew1) | exact HB.out)))); have n2_ := Aside0.mk (below_step (by repeat (first | (with_reducible first | exact HB.out | apply below_alloc | apply pw_below_drewN | apply below_drew1) | exact HB.out)) hb); clear HO210; clear HB; have HO210 := n0_; have HO214 := n1_; have HB := n2_; clear n0_ n1_ n2_; (try clear hb); (try clear hb2); (try clear hk); (try clear hi); (try clear ho0))))
  (try simp only [Act.put, List.setIfInBounds_toArray, List.set_cons_zero, List.set_cons_succ])
  go_cut [74] (fun v74 wc => ∃ (kq : Nat) (x74_7 : Bool), v74 = .bool x74_7 ∧ Aside0 (dioramalaw23_NoiseShapes.j0 kq t204 t206 t207 t211 x74_7 = some r) ∧ Aside0 (kq ≤ k) ∧ Aside0 (Kd.R (Kd.int .i64) 3 wc w.heap.size (fun k_ => some k_ ≠ (v213 : Value).ownBlock) v209 t207) ∧ Aside0 (Kd.R (Kd.int .i64) 3 wc w.heap.size (fun k_ => some k_ ≠ (v209 : Value).ownBlock) v213 t211) ∧ Aside0 (Below w.heap.size w wc))
  case first =>
    have H := HC8.out
    clear HC8
    by_cases c12 : t208 = 0
    · rw [if_pos c12] at H
      have c12b0 : (t208 == 0) = true := beq_iff_eq.mpr c12
      have c12b1 : (t208 != 0) = false := bne_eq_false_iff_eq.mpr c12
      clear c12
      (first | rw [c12b0] | (simp only [i64_w, i32_w]; rw [c12b0]) | skip)
      by_cases c13 : t212 = 0
      · rw [if_pos c13] at H
        have c13b0 : (t212 == 0) = true := beq_iff_eq.mpr c13
        have c13b1 : (t212 != 0) = false := bne_eq_false_iff_eq.mpr c13
        clear c13
        by_cases c14 : (t207.length : Int) = (wrap64 (t204 + 1))
        · rw [if_pos c14] at H
          have c14b0 : ((t207.length : Int) == (wrap64 (t204 + 1))) = true := beq_iff_eq.mpr c14
          have c14b1 : ((t207.length : Int) != (wrap64 (t204 + 1))) = false := bne_eq_false_iff_eq.mpr c14
          clear c14
          by_cases c15 : (t211.length : Int) = (wrap64 (t204 + 1))
          · rw [if_pos c15] at H
            have c15b0 : ((t211.length : Int) == (wrap64 (t204 + 1))) = true := beq_iff_eq.mpr c15
            have c15b1 : ((t211.length : Int) != (wrap64 (t204 + 1))) = false := bne_eq_false_iff_eq.mpr c15
            clear c15
            replace H := Option.bind_eq_some_iff.mp H
            obtain ⟨t215, A160, H⟩ := H
            replace H : (if 0 ≤ (IntKind.u64.wrap (t205)) then (if 0 ≤ (IntKind.u64.wrap (wrap64 (t205 * t204))) then (dioramalaw23_NoiseShapes.j0 k t204 t206 t207 t211 (t215 != (shl .i64 (wrap64 ((shl .i64 1 (IntKind.u64.wrap (t205))) + 1)) (IntKind.u64.wrap (wrap64 (t205 * t204)))))) else (none)) else (none)) = some r := H
            have A16 := Aside0.mk A160
            clear A160
            obtain ⟨ji17, hji17⟩ : ∃ j_ : Int, (IntKind.u64.wrap (t205)) = j_ := ⟨_, rfl⟩
            replace H : (if 0 ≤ (ji17) then (if 0 ≤ (IntKind.u64.wrap (wrap64 (t205 * t204))) then (dioramalaw23_NoiseShapes.j0 k t204 t206 t207 t211 (t215 != (shl .i64 (wrap64 ((shl .i64 1 (ji17)) + 1)) (IntKind.u64.wrap (wrap64 (t205 * t204)))))) else (none)) else (none)) = some r := by first | (rw [hji17] at H; exact H) | (simp only [hji17] at H ⊢; exact H)
            (try rw [hji17] at A16)
            by_cases c18 : 0 ≤ (ji17)
            · rw [if_pos c18] at H
              have c18b0 := eq_true c18
              have c18b1 : decide (0 ≤ (ji17)) = true := decide_eq_true c18
              clear c18
              obtain ⟨ji19, hji19⟩ : ∃ j_ : Int, (shl .i64 1 (ji17)) = j_ := ⟨_, rfl⟩
              replace H : (if 0 ≤ (IntKind.u64.wrap (wrap64 (t205 * t204))) then (dioramalaw23_NoiseShapes.j0 k t204 t206 t207 t211 (t215 != (shl .i64 (wrap64 ((ji19) + 1)) (IntKind.u64.wrap (wrap64 (t205 * t204)))))) else (none)) = some r := by first | (rw [hji19] at H; exact H) | (simp only [hji19] at H ⊢; exact H)
              (try rw [hji19] at A16)
              have hji19_ : (IntKind.i64.wrap (1 * 2 ^ min (ji17).toNat 64)) = ji19 := hji19
              have hji19z : (ji17) ≤ 64 → (IntKind.i64.wrap (1 * 2 ^ (ji17).toNat)) = ji19 := shl_small hji19
              have hji19u : (IntKind.i64.wrap (2 ^ min (ji17).toNat 64)) = ji19 := by have h_ := hji19_; rw [Int.one_mul] at h_; exact h_
              have hji19v : (ji17) ≤ 64 → (IntKind.i64.wrap (2 ^ (ji17).toNat)) = ji19 := fun hle_ => by have h_ := hji19z hle_; rw [Int.one_mul] at h_; exact h_
              have hji19y : (wrap64 (1 * 2 ^ min (ji17).toNat 64)) = ji19 := (i64_w _).symm.trans hji19_
              have hji19x : (ji17) ≤ 64 → (wrap64 (1 * 2 ^ (ji17).toNat)) = ji19 := fun h_ => (i64_w _).symm.trans (hji19z h_)
              obtain ⟨ji20, hji20⟩ : ∃ j_ : Int, (IntKind.u64.wrap (wrap64 (t205 * t204))) = j_ := ⟨_, rfl⟩
              replace H : (if 0 ≤ (ji20) then (dioramalaw23_NoiseShapes.j0 k t204 t206 t207 t211 (t215 != (shl .i64 (wrap64 ((ji19) + 1)) (ji20)))) else (none)) = some r := by first | (rw [hji20] at H; exact H) | (simp only [hji20] at H ⊢; exact H)
              (try rw [hji20] at A16)
              by_cases c21 : 0 ≤ (ji20)
              · rw [if_pos c21] at H
                have c21b0 := eq_true c21
                have c21b1 : decide (0 ≤ (ji20)) = true := decide_eq_true c21
                clear c21
                obtain ⟨ji22, hji22⟩ : ∃ j_ : Int, (shl .i64 (wrap64 ((ji19) + 1)) (ji20)) = j_ := ⟨_, rfl⟩
                replace H : (dioramalaw23_NoiseShapes.j0 k t204 t206 t207 t211 (t215 != (ji22))) = some r := by first | (rw [hji22] at H; exact H) | (simp only [hji22] at H ⊢; exact H)
                (try rw [hji22] at A16)
                have hji22_ : (IntKind.i64.wrap ((wrap64 ((ji19) + 1)) * 2 ^ min (ji20).toNat 64)) = ji22 := hji22
                have hji22z : (ji20) ≤ 64 → (IntKind.i64.wrap ((wrap64 ((ji19) + 1)) * 2 ^ (ji20).toNat)) = ji22 := shl_small hji22
                have hji22y : (wrap64 ((wrap64 ((ji19) + 1)) * 2 ^ min (ji20).toNat 64)) = ji22 := (i64_w _).symm.trans hji22_
                have hji22x : (ji20) ≤ 64 → (wrap64 ((wrap64 ((ji19) + 1)) * 2 ^ (ji20).toNat)) = ji22 := fun h_ => (i64_w _).symm.trans (hji22z h_)
                have H' := Aside0.mk H
                clear H
                obtain ⟨Ao23, co23, eo23⟩ := Kd.R_slice HO210.out
                subst eo23
                obtain ⟨Ao24, co24, eo24⟩ := Kd.R_slice HO214.out
                subst eo24
                go_wp2_with (first | (go_at_call 15; (with_reducible refine (dioramaref23_Sum.calls k _ _ t207 t215 _ ?side1 ?side2 A16.out).mono ?_); (case side1 => repeat (first | exact (Kd.R_reads' HO210.out).2.2 | (with_reducible refine Kd.C_alloc ?_ _) | (with_reducible refine Kd.C_drewN ?_ _) | (with_reducible refine Kd.C_drew ?_))); (case side2 => exact (Kd.R_reads' HO210.out).2.1); rintro e w' ⟨rfl, ⟨nd, rfl⟩⟩; (try first | exact ⟨rfl, _, World.drewN_drewN _ _ _⟩ | exact ⟨rfl, _, Eq.trans (World.drewN_drewN _ _ _) (congrArg (World.drewN _) (Nat.add_assoc _ _ _))⟩)))
                repeat (go_quiet (first | (go_at_call 15; (with_reducible refine (dioramaref23_Sum.calls k _ _ t207 t215 _ ?side1 ?side2 A16.out).mono ?_); (case side1 => repeat (first | exact (Kd.R_reads' HO210.out).2.2 | (with_reducible refine Kd.C_alloc ?_ _) | (with_reducible refine Kd.C_drewN ?_ _) | (with_reducible refine Kd.C_drew ?_))); (case side2 => exact (Kd.R_reads' HO210.out).2.1); rintro e w' ⟨rfl, ⟨nd, rfl⟩⟩; (try first | exact ⟨rfl, _, World.drewN_drewN _ _ _⟩ | exact ⟨rfl, _, Eq.trans (World.drewN_drewN _ _ _) (congrArg (World.drewN _) (Nat.add_assoc _ _ _))⟩))); try go_wp2_with (first | (go_at_call 15; (with_reducible refine (dioramaref23_Sum.calls k _ _ t207 t215 _ ?side1 ?side2 A16.out).mono ?_); (case side1 => repeat (first | exact (Kd.R_reads' HO210.out).2.2 | (with_reducible refine Kd.C_alloc ?_ _) | (with_reducible refine Kd.C_drewN ?_ _) | (with_reducible refine Kd.C_drew ?_))); (case side2 => exact (Kd.R_reads' HO210.out).2.1); rintro e w' ⟨rfl, ⟨nd, rfl⟩⟩; (try first | exact ⟨rfl, _, World.drewN_drewN _ _ _⟩ | exact ⟨rfl, _, Eq.trans (World.drewN_drewN _ _ _) (congrArg (World.drewN _) (Nat.add_assoc _ _ _))⟩))))
                go_meet
                case rel => exact ⟨_, ((t215 != (ji22))), (by first | rfl | (simp; done) | (simp only [← hji22] <;> (first | rfl | simp)) | (simp [*]; done)), H', ⟨by first | omega | exact Nat.le_refl _⟩, ⟨by (with_reducible repeat (first | apply Kd.R_alloc | apply Kd.R_drewN | apply Kd.R_drew)); exact Kd.R_mono HO210.out (fun _ hk => hk.2)⟩, ⟨by (with_reducible repeat (first | apply Kd.R_alloc | apply Kd.R_drewN | apply Kd.R_drew)); exact Kd.R_mono HO214.out (fun _ hk => hk.2)⟩, ⟨by repeat (first | (with_reducible first | exact HB.out | apply below_alloc | apply pw_below_drewN | apply below_drew1) | exact HB.out)⟩⟩
              · rw [if_neg c21] at H
                exact absurd H (by simp)
            · rw [if_neg c18] at H
              exact absurd H (by simp)
          · rw [if_neg c15] at H
            have c15b0 : ((t211.length : Int) == (wrap64 (t204 + 1))) = false := beq_eq_false_iff_ne.mpr c15
            have c15b1 : ((t211.length : Int) != (wrap64 (t204 + 1))) = true := bne_iff_ne.mpr c15
            have H' := Aside0.mk H
            clear H
            obtain ⟨Ao25, co25, eo25⟩ := Kd.R_slice HO210.out
            subst eo25
            obtain ⟨Ao26, co26, eo26⟩ := Kd.R_slice HO214.out
            subst eo26
            go_wp2
            repeat (go_quiet (fail); try go_wp2)
            go_meet
            case rel => exact ⟨_, (true), (by first | rfl | (simp; done) | (simp [*]; done)), H', ⟨by first | omega | exact Nat.le_refl _⟩, ⟨by (with_reducible repeat (first | apply Kd.R_alloc | apply Kd.R_drewN | apply Kd.R_drew)); exact Kd.R_mono HO210.out (fun _ hk => hk.2)⟩, ⟨by (with_reducible repeat (first | apply Kd.R_alloc | apply Kd.R_drewN | apply Kd.R_drew)); exact Kd.R_mono HO214.out (fun _ hk => hk.2)⟩, ⟨by repeat (first | (with_reducible first | exact HB.out | apply below_alloc | apply pw_below_drewN | apply below_drew1) | exact HB.out)⟩⟩
        · rw [if_neg c14] at H
          have c14b0 : ((t207.length : Int) == (wrap64 (t204 + 1))) = false := beq_eq_false_iff_ne.mpr c14
          have c14b1 : ((t207.length : Int) != (wrap64 (t204 + 1))) = true := bne_iff_ne.mpr c14
          have H' := Aside0.mk H
          clear H
          obtain ⟨Ao27, co27, eo27⟩ := Kd.R_slice HO210.out
          subst eo27
          go_wp2
          repeat (go_quiet (fail); try go_wp2)
          go_meet
          case rel => exact ⟨_, (true), (by first | rfl | (simp; done) | (simp [*]; done)), H', ⟨by first | omega | exact Nat.le_refl _⟩, ⟨by (with_reducible repeat (first | apply Kd.R_alloc | apply Kd.R_drewN | apply Kd.R_drew)); exact Kd.R_mono HO210.out (fun _ hk => hk.2)⟩, ⟨by (with_reducible repeat (first | apply Kd.R_alloc | apply Kd.R_drewN | apply Kd.R_drew)); exact Kd.R_mono HO214.out (fun _ hk => hk.2)⟩, ⟨by repeat (first | (with_reducible first | exact HB.out | apply below_alloc | apply pw_below_drewN | apply below_drew1) | exact HB.out)⟩⟩
      · rw [if_neg c13] at H
        have c13b0 : (t212 == 0) = false := beq_eq_false_iff_ne.mpr c13
        have c13b1 : (t212 != 0) = true := bne_iff_ne.mpr c13
        have H' := Aside0.mk H
        clear H
        go_wp2
        repeat (go_quiet (fail); try go_wp2)
        go_meet
        case rel => exact ⟨_, (true), (by first | rfl | (simp; done) | (simp [*]; done)), H', ⟨by first | omega | exact Nat.le_refl _⟩, ⟨by (with_reducible repeat (first | apply Kd.R_alloc | apply Kd.R_drewN | apply Kd.R_drew)); exact Kd.R_mono HO210.out (fun _ hk => hk.2)⟩, ⟨by (with_reducible repeat (first | apply Kd.R_alloc | apply Kd.R_drewN | apply Kd.R_drew)); exact Kd.R_mono HO214.out (fun _ hk => hk.2)⟩, ⟨by repeat (first | (with_reducible first | exact HB.out | apply below_alloc | apply pw_below_drewN | apply below_drew1) | exact HB.out)⟩⟩
    · rw [if_neg c12] at H
      have c12b0 : (t208 == 0) = false := beq_eq_false_iff_ne.mpr c12
      have c12b1 : (t208 != 0) = true := bne_iff_ne.mpr c12
      (first | rw [c12b0] | (simp only [i64_w, i32_w]; rw [c12b0]) | skip)
      have H' := Aside0.mk H
      clear H
      go_wp2
      repeat (go_quiet (fail); try go_wp2)
      go_meet
      case rel => exact ⟨_, (true), (by first | rfl | (simp; done) | (simp [*]; done)), H', ⟨by first | omega | exact Nat.le_refl _⟩, ⟨by (with_reducible repeat (first | apply Kd.R_alloc | apply Kd.R_drewN | apply Kd.R_drew)); exact Kd.R_mono HO210.out (fun _ hk => hk.2)⟩, ⟨by (with_reducible repeat (first | apply Kd.R_alloc | apply Kd.R_drewN | apply Kd.R_drew)); exact Kd.R_mono HO214.out (fun _ hk => hk.2)⟩, ⟨by repeat (first | (with_reducible first | exact HB.out | apply below_alloc | apply pw_below_drewN | apply below_drew1) | exact HB.out)⟩⟩
  case rest =>
    clear HC8
    try clear c1
    try clear c2
    try clear p2
    try clear c5
    try clear p6
    try clear c12
    try clear c12b0
    try clear c12b1
    try clear c13
    try clear c13b0
    try clear c13b1
    try clear c14
    try clear c14b0
    try clear c14b1
    try clear c15
    try clear c15b0
    try clear c15b1
    try clear c18
    try clear c18b0
    try clear c18b1
    try clear c21
    try clear c21b0
    try clear c21b1
    obtain ⟨kq, x74_7, rfl, HA, HJ7, HO_10, HO_12, HB⟩ := hcut
    cases kq with
    | zero => exact absurd HA.out (by simp [dioramalaw23_NoiseShapes.j0])
    | succ kj7 =>
      have H := HA.out
      clear HA
      simp only [dioramalaw23_NoiseShapes.j0] at H
      by_cases c28 : x74_7 = true
      · subst c28
        have H1 : (some false) = some r := by rw [if_pos rfl] at H; exact H
        clear H
        have H := H1
        clear H1
        obtain rfl := Option.some.inj H
        go_wp2
        repeat (go_quiet (fail); try go_wp2)
        go_ret
        exact ⟨by first | rfl | (simp [errW_none, errW_some] <;> rfl) | (simp [*, errW_none, errW_some] <;> rfl), by repeat (first | (with_reducible first | exact HB.out | apply below_alloc | apply pw_below_drewN | apply below_drew1) | exact HB.out)⟩
      · replace c28 := Bool.eq_false_iff.mpr c28
        subst c28
        have H1 : (dioramalaw23_NoiseShapes.l0 kj7 t204 t206 t207 t211 0) = some r := by rw [if_neg (show ¬ (false = true) by decide)] at H; exact H
        clear H
        have H := H1
        clear H1
        have H' := Aside0.mk H
        clear H
        go_wp2
        repeat (go_quiet (fail); try go_wp2)
        go_loopg [14] kj7 (fun kq v14 w' => ∃ (x14_2 : Int), v14 = .int .i64 x14_2 ∧ Aside0 (dioramalaw23_NoiseShapes.l0 kq t204 t206 t207 t211 x14_2 = some r) ∧ Aside0 (kq ≤ kj7) ∧ Aside0 (Kd.R (Kd.int .i64) 3 w' w.heap.size (fun k_ => some k_ ≠ (v213 : Value).ownBlock) v209 t207) ∧ Aside0 (Kd.R (Kd.int .i64) 3 w' w.heap.size (fun k_ => some k_ ≠ (v209 : Value).ownBlock) v213 t211) ∧ Aside0 (Below w.heap.size w w'))
        case atStart => exact ⟨(0), (by first | rfl | (simp; done) | (simp [*]; done)), H', ⟨Nat.le_refl _⟩, ⟨by (with_reducible repeat (first | apply Kd.R_alloc | apply Kd.R_drewN | apply Kd.R_drew)); exact HO_10.out⟩, ⟨by (with_reducible repeat (first | apply Kd.R_alloc | apply Kd.R_drewN | apply Kd.R_drew)); exact HO_12.out⟩, ⟨by repeat (first | (with_reducible first | exact HB.out | apply below_alloc | apply pw_below_drewN | apply below_drew1) | exact HB.out)⟩⟩
        case round =>
          clear H'
          try clear c1
          try clear c2
          try clear p2
          try clear c5
          try clear p6
          try clear c12
          try clear c12b0
          try clear c12b1
          try clear c13
          try clear c13b0
          try clear c13b1
          try clear c14
          try clear c14b0
          try clear c14b1
          try clear c15
          try clear c15b0
          try clear c15b1
          try clear c18
          try clear c18b0
          try clear c18b1
          try clear c21
          try clear c21b0
          try clear c21b1
          try clear c28
          try clear p2
          try clear p6
          obtain ⟨x14_2, rfl, HA, HK2, HO_10, HO_12, HB⟩ := hrel
          cases gk with
          | zero => exact absurd HA.out (by simp [dioramalaw23_NoiseShapes.l0])
          | succ k2 =>
            have H := HA.out
            clear HA
            simp only [dioramalaw23_NoiseShapes.l0] at H
            by_cases c29 : x14_2 ≤ t204
            · rw [if_pos c29] at H
              have c29b0 : decide (x14_2 ≤ t204) = true := decide_eq_true c29
              clear c29
              have HC30 := Aside0.mk H
              clear H
              go_upto_region 10 with (fail)
              repeat (go_quiet (fail); go_upto_region 10 with (fail))
              go_cut [97] (fun v97 wc => ∃ (kq : Nat) (x97_29 : Bool), v97 = .bool x97_29 ∧ Aside0 (dioramalaw23_NoiseShapes.j2 kq t204 t206 t207 t211 x14_2 x97_29 = some r) ∧ Aside0 (kq ≤ k2) ∧ Aside0 (Kd.R (Kd.int .i64) 3 wc w.heap.size (fun k_ => some k_ ≠ (v213 : Value).ownBlock) v209 t207) ∧ Aside0 (Kd.R (Kd.int .i64) 3 wc w.heap.size (fun k_ => some k_ ≠ (v209 : Value).ownBlock) v213 t211) ∧ Aside0 (Below w.heap.size w wc))
              case first =>
                have H := HC30.out
                clear HC30
                by_cases c31 : 0 ≤ x14_2
                · rw [if_pos c31] at H
                  have c31b0 : decide (0 ≤ x14_2) = true := decide_eq_true c31
                  clear c31
                  (first | rw [c31b0] | (simp only [i64_w, i32_w]; rw [c31b0]) | skip)
                  by_cases c32 : x14_2 < (t207.length : Int)
                  · rw [if_pos c32] at H
                    have c32b0 : decide (x14_2 < (t207.length : Int)) = true := decide_eq_true c32
                    clear c32
                    by_cases c33 : (rd t207 x14_2) ≤ 0
                    · rw [if_pos c33] at H
                      have c33b0 : decide ((rd t207 x14_2) ≤ 0) = true := decide_eq_true c33
                      clear c33
                      have H' := Aside0.mk H
                      clear H
                      obtain ⟨Ao34, co34, eo34⟩ := Kd.R_slice HO_10.out
                      subst eo34
                      have p217 : 0 ≤ (x14_2 : Int) := of_decide_eq_true (by first | (with_reducible assumption) | assumption)
                      have q217 : x14_2 < (t207.length : Int) := of_decide_eq_true (by first | (with_reducible assumption) | assumption)
                      obtain ⟨ad217, e217, hx217_0⟩ := Kd.at_int (Kd.R_reads' HO_10.out).2.2 x14_2 p217 q217
                      cases e217
                      replace p217 := eq_true p217
                      replace q217 := eq_true q217
                      go_wp2
                      repeat (go_quiet (fail); try go_wp2)
                      go_meet
                      case rel => exact ⟨_, (true), (by first | rfl | (simp; done) | (simp [*]; done)), H', ⟨by have := HJ7.out; have := HK2.out; first | omega | exact Nat.le_refl _⟩, ⟨by (with_reducible repeat (first | apply Kd.R_alloc | apply Kd.R_drewN | apply Kd.R_drew)); exact HO_10.out⟩, ⟨by (with_reducible repeat (first | apply Kd.R_alloc | apply Kd.R_drewN | apply Kd.R_drew)); exact HO_12.out⟩, ⟨by repeat (first | (with_reducible first | exact HB.out | apply below_alloc | apply pw_below_drewN | apply below_drew1) | exact HB.out)⟩⟩
                    · rw [if_neg c33] at H
                      have c33b0 : decide ((rd t207 x14_2) ≤ 0) = false := decide_eq_false c33
                      clear c33
                      obtain ⟨ji35, hji35⟩ : ∃ j_ : Int, (wrap64 (t204 - x14_2)) = j_ := ⟨_, rfl⟩
                      replace H : (if 0 ≤ (ji35) then (if (ji35) < (t211.length : Int) then (dioramalaw23_NoiseShapes.j2 k2 t204 t206 t207 t211 x14_2 ((rd t207 x14_2) != (rd t211 (ji35)))) else (none)) else (none)) = some r := by first | (rw [hji35] at H; exact H) | (simp only [hji35] at H ⊢; exact H)
                      have hji35w : (IntKind.i64.wrap (t204 - x14_2)) = ji35 := (i64_w _).trans hji35
                      by_cases c36 : 0 ≤ (ji35)
                      · rw [if_pos c36] at H
                        have c36b0 : decide (0 ≤ (ji35)) = true := decide_eq_true c36
                        clear c36
                        by_cases c37 : (ji35) < (t211.length : Int)
                        · rw [if_pos c37] at H
                          have c37b0 : decide ((ji35) < (t211.length : Int)) = true := decide_eq_true c37
                          clear c37
                          have H' := Aside0.mk H
                          clear H
                          obtain ⟨Ao38, co38, eo38⟩ := Kd.R_slice HO_10.out
                          subst eo38
                          have p217 : 0 ≤ (x14_2 : Int) := of_decide_eq_true (by first | (with_reducible assumption) | assumption)
                          have q217 : x14_2 < (t207.length : Int) := of_decide_eq_true (by first | (with_reducible assumption) | assumption)
                          obtain ⟨ad217, e217, hx217_0⟩ := Kd.at_int (Kd.R_reads' HO_10.out).2.2 x14_2 p217 q217
                          cases e217
                          replace p217 := eq_true p217
                          replace q217 := eq_true q217
                          have p218 : 0 ≤ (x14_2 : Int) := of_decide_eq_true (by first | (with_reducible assumption) | assumption)
                          have q218 : x14_2 < (t207.length : Int) := of_decide_eq_true (by first | (with_reducible assumption) | assumption)
                          obtain ⟨ad218, e218, hx218_0⟩ := Kd.at_int (Kd.R_reads' HO_10.out).2.2 x14_2 p218 q218
                          obtain rfl : ad217 = ad218 := (by injection e218)
                          replace p218 := eq_true p218
                          replace q218 := eq_true q218
                          obtain ⟨Ao39, co39, eo39⟩ := Kd.R_slice HO_12.out
                          subst eo39
                          have p219 : 0 ≤ ((ji35) : Int) := of_decide_eq_true (by first | (with_reducible assumption) | assumption)
                          have q219 : (ji35) < (t211.length : Int) := of_decide_eq_true (by first | (with_reducible assumption) | assumption)
                          obtain ⟨ad219, e219, hx219_0⟩ := Kd.at_int (Kd.R_reads' HO_12.out).2.2 (ji35) p219 q219
                          cases e219
                          replace p219 := eq_true p219
                          replace q219 := eq_true q219
                          go_wp2
                          repeat (go_quiet (fail); try go_wp2)
                          go_meet
                          case rel => exact ⟨_, (((rd t207 x14_2) != (rd t211 (ji35)))), (by first | rfl | (simp; done) | (simp only [← hji35] <;> (first | rfl | simp)) | (simp [*]; done)), H', ⟨by have := HJ7.out; have := HK2.out; first | omega | exact Nat.le_refl _⟩, ⟨by (with_reducible repeat (first | apply Kd.R_alloc | apply Kd.R_drewN | apply Kd.R_drew)); exact HO_10.out⟩, ⟨by (with_reducible repeat (first | apply Kd.R_alloc | apply Kd.R_drewN | apply Kd.R_drew)); exact HO_12.out⟩, ⟨by repeat (first | (with_reducible first | exact HB.out | apply below_alloc | apply pw_below_drewN | apply below_drew1) | exact HB.out)⟩⟩
                        · rw [if_neg c37] at H
                          exact absurd H (by simp)
                      · rw [if_neg c36] at H
                        exact absurd H (by simp)
                  · rw [if_neg c32] at H
                    exact absurd H (by simp)
                · rw [if_neg c31] at H
                  exact absurd H (by simp)
              case rest =>
                clear HC30
                try clear c1
                try clear c2
                try clear p2
                try clear q2
                try clear hx2
                try clear c3
                try clear c5
                try clear p6
                try clear c12
                try clear c12b0
                try clear c12b1
                try clear c13
                try clear c13b0
                try clear c13b1
                try clear c14
                try clear c14b0
                try clear c14b1
                try clear c15
                try clear c15b0
                try clear c15b1
                try clear c18
                try clear c18b0
                try clear c18b1
                try clear c21
                try clear c21b0
                try clear c21b1
                try clear p21
                try clear q21
                try clear hx21
                try clear c28
                try clear c29
                try clear c29b0
                try clear c31
                try clear c31b0
                try clear c32
                try clear c32b0
                try clear c33
                try clear c33b0
                try clear c36
                try clear c36b0
                try clear c37
                try clear c37b0
                try clear hx217_0
                try clear hx218_0
                try clear hx219_0
                try clear p2
                try clear p217
                try clear p218
                try clear p219
                try clear p6
                try clear q217
                try clear q218
                try clear q219
                obtain ⟨kq, x97_29, rfl, HA, HJ29, HO_10, HO_12, HB⟩ := hcut
                cases kq with
                | zero => exact absurd HA.out (by simp [dioramalaw23_NoiseShapes.j2])
                | succ kj29 =>
                  have H := HA.out
                  clear HA
                  simp only [dioramalaw23_NoiseShapes.j2] at H
                  by_cases c40 : x97_29 = true
                  · subst c40
                    have H1 : (some false) = some r := by rw [if_pos rfl] at H; exact H
                    clear H
                    have H := H1
                    clear H1
                    obtain rfl := Option.some.inj H
                    go_wp2
                    repeat (go_quiet (fail); try go_wp2)
                    go_ret
                    exact ⟨by first | rfl | (simp [errW_none, errW_some] <;> rfl) | (simp [*, errW_none, errW_some] <;> rfl), by repeat (first | (with_reducible first | exact HB.out | apply below_alloc | apply pw_below_drewN | apply below_drew1) | exact HB.out)⟩
                  · replace c40 := Bool.eq_false_iff.mpr c40
                    subst c40
                    have H1 : (if x14_2 > 1 then (if x14_2 < t204 then (if x14_2 ≤ t206 then (if 0 ≤ (wrap64 (x14_2 - 1)) then (if (wrap64 (x14_2 - 1)) < (t207.length : Int) then (if 0 ≤ x14_2 then (if x14_2 < (t207.length : Int) then (if (rd t207 (wrap64 (x14_2 - 1))) > (rd t207 x14_2) then (some false) else (if x14_2 > t206 then (if (rd t207 (wrap64 (x14_2 - 1))) < (rd t207 x14_2) then (some false) else (dioramalaw23_NoiseShapes.l0 kj29 t204 t206 t207 t211 (wrap64 (x14_2 + 1)))) else (dioramalaw23_NoiseShapes.l0 kj29 t204 t206 t207 t211 (wrap64 (x14_2 + 1))))) else (none)) else (none)) else (none)) else (none)) else (if x14_2 > t206 then (if 0 ≤ (wrap64 (x14_2 - 1)) then (if (wrap64 (x14_2 - 1)) < (t207.length : Int) then (if 0 ≤ x14_2 then (if x14_2 < (t207.length : Int) then (if (rd t207 (wrap64 (x14_2 - 1))) < (rd t207 x14_2) then (some false) else (dioramalaw23_NoiseShapes.l0 kj29 t204 t206 t207 t211 (wrap64 (x14_2 + 1)))) else (none)) else (none)) else (none)) else (none)) else (dioramalaw23_NoiseShapes.l0 kj29 t204 t206 t207 t211 (wrap64 (x14_2 + 1))))) else (dioramalaw23_NoiseShapes.l0 kj29 t204 t206 t207 t211 (wrap64 (x14_2 + 1)))) else (dioramalaw23_NoiseShapes.l0 kj29 t204 t206 t207 t211 (wrap64 (x14_2 + 1)))) = some r := by rw [if_neg (show ¬ (false = true) by decide)] at H; exact H
                    clear H
                    have H := H1
                    clear H1
                    by_cases c41 : x14_2 > 1
                    · rw [if_pos c41] at H
                      have c41b0 : decide (1 < x14_2) = true := decide_eq_true c41
                      clear c41
                      by_cases c42 : x14_2 < t204
                      · rw [if_pos c42] at H
                        have c42b0 : decide (x14_2 < t204) = true := decide_eq_true c42
                        clear c42
                        by_cases c43 : x14_2 ≤ t206
                        · rw [if_pos c43] at H
                          have c43b0 : decide (x14_2 ≤ t206) = true := decide_eq_true c43
                          clear c43
                          obtain ⟨ji44, hji44⟩ : ∃ j_ : Int, (wrap64 (x14_2 - 1)) = j_ := ⟨_, rfl⟩
                          replace H : (if 0 ≤ (ji44) then (if (ji44) < (t207.length : Int) then (if 0 ≤ x14_2 then (if x14_2 < (t207.length : Int) then (if (rd t207 (ji44)) > (rd t207 x14_2) then (some false) else (if x14_2 > t206 then (if (rd t207 (ji44)) < (rd t207 x14_2) then (some false) else (dioramalaw23_NoiseShapes.l0 kj29 t204 t206 t207 t211 (wrap64 (x14_2 + 1)))) else (dioramalaw23_NoiseShapes.l0 kj29 t204 t206 t207 t211 (wrap64 (x14_2 + 1))))) else (none)) else (none)) else (none)) else (none)) = some r := by first | (rw [hji44] at H; exact H) | (simp only [hji44] at H ⊢; exact H)
                          have hji44w : (IntKind.i64.wrap (x14_2 - 1)) = ji44 := (i64_w _).trans hji44
                          by_cases c45 : 0 ≤ (ji44)
                          · rw [if_pos c45] at H
                            have c45b0 : decide (0 ≤ (ji44)) = true := decide_eq_true c45
                            clear c45
                            by_cases c46 : (ji44) < (t207.length : Int)
                            · rw [if_pos c46] at H
                              have c46b0 : decide ((ji44) < (t207.length : Int)) = true := decide_eq_true c46
                              clear c46
                              by_cases c47 : 0 ≤ x14_2
                              · rw [if_pos c47] at H
                                have c47b0 : decide (0 ≤ x14_2) = true := decide_eq_true c47
                                clear c47
                                by_cases c48 : x14_2 < (t207.length : Int)
                                · rw [if_pos c48] at H
                                  have c48b0 : decide (x14_2 < (t207.length : Int)) = true := decide_eq_true c48
                                  clear c48
                                  by_cases c49 : (rd t207 (ji44)) > (rd t207 x14_2)
                                  · rw [if_pos c49] at H
                                    have c49b0 : decide ((rd t207 x14_2) < (rd t207 (ji44))) = true := decide_eq_true c49
                                    clear c49
                                    obtain rfl := Option.some.inj H
                                    obtain ⟨Ao50, co50, eo50⟩ := Kd.R_slice HO_10.out
                                    subst eo50
                                    have p220 : 0 ≤ ((ji44) : Int) := of_decide_eq_true (by first | (with_reducible assumption) | assumption)
                                    have q220 : (ji44) < (t207.length : Int) := of_decide_eq_true (by first | (with_reducible assumption) | assumption)
                                    obtain ⟨ad220, e220, hx220_0⟩ := Kd.at_int (Kd.R_reads' HO_10.out).2.2 (ji44) p220 q220
                                    cases e220
                                    replace p220 := eq_true p220
                                    replace q220 := eq_true q220
                                    have p221 : 0 ≤ (x14_2 : Int) := of_decide_eq_true (by first | (with_reducible assumption) | assumption)
                                    have q221 : x14_2 < (t207.length : Int) := of_decide_eq_true (by first | (with_reducible assumption) | assumption)
                                    obtain ⟨ad221, e221, hx221_0⟩ := Kd.at_int (Kd.R_reads' HO_10.out).2.2 x14_2 p221 q221
                                    obtain rfl : ad220 = ad221 := (by injection e221)
                                    replace p221 := eq_true p221
                                    replace q221 := eq_true q221
                                    go_wp2
                                    repeat (go_quiet (fail); try go_wp2)
                                    go_ret
                                    exact ⟨by first | rfl | (simp [errW_none, errW_some] <;> rfl) | (simp only [← hji44]; first | rfl | (simp [errW_none, errW_some] <;> rfl)) | (simp [*, errW_none, errW_some] <;> rfl), by repeat (first | (with_reducible first | exact HB.out | apply below_alloc | apply pw_below_drewN | apply below_drew1) | exact HB.out)⟩
                                  · rw [if_neg c49] at H
                                    have c49b0 : decide ((rd t207 x14_2) < (rd t207 (ji44))) = false := decide_eq_false c49
                                    clear c49
                                    by_cases c51 : x14_2 > t206
                                    · rw [if_pos c51] at H
                                      have c51b0 : decide (t206 < x14_2) = true := decide_eq_true c51
                                      clear c51
                                      by_cases c52 : (rd t207 (ji44)) < (rd t207 x14_2)
                                      · rw [if_pos c52] at H
                                        have c52b0 : decide ((rd t207 (ji44)) < (rd t207 x14_2)) = true := decide_eq_true c52
                                        clear c52
                                        obtain rfl := Option.some.inj H
                                        obtain ⟨Ao53, co53, eo53⟩ := Kd.R_slice HO_10.out
                                        subst eo53
                                        have p220 : 0 ≤ ((ji44) : Int) := of_decide_eq_true (by first | (with_reducible assumption) | assumption)
                                        have q220 : (ji44) < (t207.length : Int) := of_decide_eq_true (by first | (with_reducible assumption) | assumption)
                                        obtain ⟨ad220, e220, hx220_0⟩ := Kd.at_int (Kd.R_reads' HO_10.out).2.2 (ji44) p220 q220
                                        cases e220
                                        replace p220 := eq_true p220
                                        replace q220 := eq_true q220
                                        have p221 : 0 ≤ (x14_2 : Int) := of_decide_eq_true (by first | (with_reducible assumption) | assumption)
                                        have q221 : x14_2 < (t207.length : Int) := of_decide_eq_true (by first | (with_reducible assumption) | assumption)
                                        obtain ⟨ad221, e221, hx221_0⟩ := Kd.at_int (Kd.R_reads' HO_10.out).2.2 x14_2 p221 q221
                                        obtain rfl : ad220 = ad221 := (by injection e221)
                                        replace p221 := eq_true p221
                                        replace q221 := eq_true q221
                                        have p222 : 0 ≤ ((ji44) : Int) := of_decide_eq_true (by first | (with_reducible assumption) | assumption)
                                        have q222 : (ji44) < (t207.length : Int) := of_decide_eq_true (by first | (with_reducible assumption) | assumption)
                                        obtain ⟨ad222, e222, hx222_0⟩ := Kd.at_int (Kd.R_reads' HO_10.out).2.2 (ji44) p222 q222
                                        obtain rfl : ad220 = ad222 := (by injection e222)
                                        replace p222 := eq_true p222
                                        replace q222 := eq_true q222
                                        have p223 : 0 ≤ (x14_2 : Int) := of_decide_eq_true (by first | (with_reducible assumption) | assumption)
                                        have q223 : x14_2 < (t207.length : Int) := of_decide_eq_true (by first | (with_reducible assumption) | assumption)
                                        obtain ⟨ad223, e223, hx223_0⟩ := Kd.at_int (Kd.R_reads' HO_10.out).2.2 x14_2 p223 q223
                                        obtain rfl : ad220 = ad223 := (by injection e223)
                                        replace p223 := eq_true p223
                                        replace q223 := eq_true q223
                                        go_wp2
                                        repeat (go_quiet (fail); try go_wp2)
                                        go_ret
                                        exact ⟨by first | rfl | (simp [errW_none, errW_some] <;> rfl) | (simp only [← hji44]; first | rfl | (simp [errW_none, errW_some] <;> rfl)) | (simp [*, errW_none, errW_some] <;> rfl), by repeat (first | (with_reducible first | exact HB.out | apply below_alloc | apply pw_below_drewN | apply below_drew1) | exact HB.out)⟩
                                      · rw [if_neg c52] at H
                                        have c52b0 : decide ((rd t207 (ji44)) < (rd t207 x14_2)) = false := decide_eq_false c52
                                        clear c52
                                        have H' := Aside0.mk H
                                        clear H
                                        obtain ⟨Ao54, co54, eo54⟩ := Kd.R_slice HO_10.out
                                        subst eo54
                                        have p220 : 0 ≤ ((ji44) : Int) := of_decide_eq_true (by first | (with_reducible assumption) | assumption)
                                        have q220 : (ji44) < (t207.length : Int) := of_decide_eq_true (by first | (with_reducible assumption) | assumption)
                                        obtain ⟨ad220, e220, hx220_0⟩ := Kd.at_int (Kd.R_reads' HO_10.out).2.2 (ji44) p220 q220
                                        cases e220
                                        replace p220 := eq_true p220
                                        replace q220 := eq_true q220
                                        have p221 : 0 ≤ (x14_2 : Int) := of_decide_eq_true (by first | (with_reducible assumption) | assumption)
                                        have q221 : x14_2 < (t207.length : Int) := of_decide_eq_true (by first | (with_reducible assumption) | assumption)
                                        obtain ⟨ad221, e221, hx221_0⟩ := Kd.at_int (Kd.R_reads' HO_10.out).2.2 x14_2 p221 q221
                                        obtain rfl : ad220 = ad221 := (by injection e221)
                                        replace p221 := eq_true p221
                                        replace q221 := eq_true q221
                                        have p222 : 0 ≤ ((ji44) : Int) := of_decide_eq_true (by first | (with_reducible assumption) | assumption)
                                        have q222 : (ji44) < (t207.length : Int) := of_decide_eq_true (by first | (with_reducible assumption) | assumption)
                                        obtain ⟨ad222, e222, hx222_0⟩ := Kd.at_int (Kd.R_reads' HO_10.out).2.2 (ji44) p222 q222
                                        obtain rfl : ad220 = ad222 := (by injection e222)
                                        replace p222 := eq_true p222
                                        replace q222 := eq_true q222
                                        have p223 : 0 ≤ (x14_2 : Int) := of_decide_eq_true (by first | (with_reducible assumption) | assumption)
                                        have q223 : x14_2 < (t207.length : Int) := of_decide_eq_true (by first | (with_reducible assumption) | assumption)
                                        obtain ⟨ad223, e223, hx223_0⟩ := Kd.at_int (Kd.R_reads' HO_10.out).2.2 x14_2 p223 q223
                                        obtain rfl : ad220 = ad223 := (by injection e223)
                                        replace p223 := eq_true p223
                                        replace q223 := eq_true q223
                                        go_wp2
                                        repeat (go_quiet (fail); try go_wp2)
                                        go_roundg kj29
                                        case measure => have := HJ7.out; have := HK2.out; have := HJ29.out; omega
                                        case rel => exact ⟨(wrap64 (x14_2 + 1)), (by first | rfl | (simp; done) | (simp [*]; done)), H', ⟨by have := HJ7.out; have := HK2.out; have := HJ29.out; omega⟩, ⟨by (with_reducible repeat (first | apply Kd.R_alloc | apply Kd.R_drewN | apply Kd.R_drew)); exact HO_10.out⟩, ⟨by (with_reducible repeat (first | apply Kd.R_alloc | apply Kd.R_drewN | apply Kd.R_drew)); exact HO_12.out⟩, ⟨by repeat (first | (with_reducible first | exact HB.out | apply below_alloc | apply pw_below_drewN | apply below_drew1) | exact HB.out)⟩⟩
                                    · rw [if_neg c51] at H
                                      have c51b0 : decide (t206 < x14_2) = false := decide_eq_false c51
                                      clear c51
                                      have H' := Aside0.mk H
                                      clear H
                                      obtain ⟨Ao55, co55, eo55⟩ := Kd.R_slice HO_10.out
                                      subst eo55
                                      have p220 : 0 ≤ ((ji44) : Int) := of_decide_eq_true (by first | (with_reducible assumption) | assumption)
                                      have q220 : (ji44) < (t207.length : Int) := of_decide_eq_true (by first | (with_reducible assumption) | assumption)
                                      obtain ⟨ad220, e220, hx220_0⟩ := Kd.at_int (Kd.R_reads' HO_10.out).2.2 (ji44) p220 q220
                                      cases e220
                                      replace p220 := eq_true p220
                                      replace q220 := eq_true q220
                                      have p221 : 0 ≤ (x14_2 : Int) := of_decide_eq_true (by first | (with_reducible assumption) | assumption)
                                      have q221 : x14_2 < (t207.length : Int) := of_decide_eq_true (by first | (with_reducible assumption) | assumption)
                                      obtain ⟨ad221, e221, hx221_0⟩ := Kd.at_int (Kd.R_reads' HO_10.out).2.2 x14_2 p221 q221
                                      obtain rfl : ad220 = ad221 := (by injection e221)
                                      replace p221 := eq_true p221
                                      replace q221 := eq_true q221
                                      go_wp2
                                      repeat (go_quiet (fail); try go_wp2)
                                      go_roundg kj29
                                      case measure => have := HJ7.out; have := HK2.out; have := HJ29.out; omega
                                      case rel => exact ⟨(wrap64 (x14_2 + 1)), (by first | rfl | (simp; done) | (simp [*]; done)), H', ⟨by have := HJ7.out; have := HK2.out; have := HJ29.out; omega⟩, ⟨by (with_reducible repeat (first | apply Kd.R_alloc | apply Kd.R_drewN | apply Kd.R_drew)); exact HO_10.out⟩, ⟨by (with_reducible repeat (first | apply Kd.R_alloc | apply Kd.R_drewN | apply Kd.R_drew)); exact HO_12.out⟩, ⟨by repeat (first | (with_reducible first | exact HB.out | apply below_alloc | apply pw_below_drewN | apply below_drew1) | exact HB.out)⟩⟩
                                · rw [if_neg c48] at H
                                  exact absurd H (by simp)
                              · rw [if_neg c47] at H
                                exact absurd H (by simp)
                            · rw [if_neg c46] at H
                              exact absurd H (by simp)
                          · rw [if_neg c45] at H
                            exact absurd H (by simp)
                        · rw [if_neg c43] at H
                          have c43b0 : decide (x14_2 ≤ t206) = false := decide_eq_false c43
                          clear c43
                          by_cases c56 : x14_2 > t206
                          · rw [if_pos c56] at H
                            have c56b0 : decide (t206 < x14_2) = true := decide_eq_true c56
                            clear c56
                            obtain ⟨ji57, hji57⟩ : ∃ j_ : Int, (wrap64 (x14_2 - 1)) = j_ := ⟨_, rfl⟩
                            replace H : (if 0 ≤ (ji57) then (if (ji57) < (t207.length : Int) then (if 0 ≤ x14_2 then (if x14_2 < (t207.length : Int) then (if (rd t207 (ji57)) < (rd t207 x14_2) then (some false) else (dioramalaw23_NoiseShapes.l0 kj29 t204 t206 t207 t211 (wrap64 (x14_2 + 1)))) else (none)) else (none)) else (none)) else (none)) = some r := by first | (rw [hji57] at H; exact H) | (simp only [hji57] at H ⊢; exact H)
                            have hji57w : (IntKind.i64.wrap (x14_2 - 1)) = ji57 := (i64_w _).trans hji57
                            by_cases c58 : 0 ≤ (ji57)
                            · rw [if_pos c58] at H
                              have c58b0 : decide (0 ≤ (ji57)) = true := decide_eq_true c58
                              clear c58
                              by_cases c59 : (ji57) < (t207.length : Int)
                              · rw [if_pos c59] at H
                                have c59b0 : decide ((ji57) < (t207.length : Int)) = true := decide_eq_true c59
                                clear c59
                                by_cases c60 : 0 ≤ x14_2
                                · rw [if_pos c60] at H
                                  have c60b0 : decide (0 ≤ x14_2) = true := decide_eq_true c60
                                  clear c60
                                  by_cases c61 : x14_2 < (t207.length : Int)
                                  · rw [if_pos c61] at H
                                    have c61b0 : decide (x14_2 < (t207.length : Int)) = true := decide_eq_true c61
                                    clear c61
                                    by_cases c62 : (rd t207 (ji57)) < (rd t207 x14_2)
                                    · rw [if_pos c62] at H
                                      have c62b0 : decide ((rd t207 (ji57)) < (rd t207 x14_2)) = true := decide_eq_true c62
                                      clear c62
                                      obtain rfl := Option.some.inj H
                                      obtain ⟨Ao63, co63, eo63⟩ := Kd.R_slice HO_10.out
                                      subst eo63
                                      have p224 : 0 ≤ ((ji57) : Int) := of_decide_eq_true (by first | (with_reducible assumption) | assumption)
                                      have q224 : (ji57) < (t207.length : Int) := of_decide_eq_true (by first | (with_reducible assumption) | assumption)
                                      obtain ⟨ad224, e224, hx224_0⟩ := Kd.at_int (Kd.R_reads' HO_10.out).2.2 (ji57) p224 q224
                                      cases e224
                                      replace p224 := eq_true p224
                                      replace q224 := eq_true q224
                                      have p225 : 0 ≤ (x14_2 : Int) := of_decide_eq_true (by first | (with_reducible assumption) | assumption)
                                      have q225 : x14_2 < (t207.length : Int) := of_decide_eq_true (by first | (with_reducible assumption) | assumption)
                                      obtain ⟨ad225, e225, hx225_0⟩ := Kd.at_int (Kd.R_reads' HO_10.out).2.2 x14_2 p225 q225
                                      obtain rfl : ad224 = ad225 := (by injection e225)
                                      replace p225 := eq_true p225
                                      replace q225 := eq_true q225
                                      go_wp2
                                      repeat (go_quiet (fail); try go_wp2)
                                      go_ret
                                      exact ⟨by first | rfl | (simp [errW_none, errW_some] <;> rfl) | (simp only [← hji57]; first | rfl | (simp [errW_none, errW_some] <;> rfl)) | (simp [*, errW_none, errW_some] <;> rfl), by repeat (first | (with_reducible first | exact HB.out | apply below_alloc | apply pw_below_drewN | apply below_drew1) | exact HB.out)⟩
                                    · rw [if_neg c62] at H
                                      have c62b0 : decide ((rd t207 (ji57)) < (rd t207 x14_2)) = false := decide_eq_false c62
                                      clear c62
                                      have H' := Aside0.mk H
                                      clear H
                                      obtain ⟨Ao64, co64, eo64⟩ := Kd.R_slice HO_10.out
                                      subst eo64
                                      have p224 : 0 ≤ ((ji57) : Int) := of_decide_eq_true (by first | (with_reducible assumption) | assumption)
                                      have q224 : (ji57) < (t207.length : Int) := of_decide_eq_true (by first | (with_reducible assumption) | assumption)
                                      obtain ⟨ad224, e224, hx224_0⟩ := Kd.at_int (Kd.R_reads' HO_10.out).2.2 (ji57) p224 q224
                                      cases e224
                                      replace p224 := eq_true p224
                                      replace q224 := eq_true q224
                                      have p225 : 0 ≤ (x14_2 : Int) := of_decide_eq_true (by first | (with_reducible assumption) | assumption)
                                      have q225 : x14_2 < (t207.length : Int) := of_decide_eq_true (by first | (with_reducible assumption) | assumption)
                                      obtain ⟨ad225, e225, hx225_0⟩ := Kd.at_int (Kd.R_reads' HO_10.out).2.2 x14_2 p225 q225
                                      obtain rfl : ad224 = ad225 := (by injection e225)
                                      replace p225 := eq_true p225
                                      replace q225 := eq_true q225
                                      go_wp2
                                      repeat (go_quiet (fail); try go_wp2)
                                      go_roundg kj29
                                      case measure => have := HJ7.out; have := HK2.out; have := HJ29.out; omega
                                      case rel => exact ⟨(wrap64 (x14_2 + 1)), (by first | rfl | (simp; done) | (simp [*]; done)), H', ⟨by have := HJ7.out; have := HK2.out; have := HJ29.out; omega⟩, ⟨by (with_reducible repeat (first | apply Kd.R_alloc | apply Kd.R_drewN | apply Kd.R_drew)); exact HO_10.out⟩, ⟨by (with_reducible repeat (first | apply Kd.R_alloc | apply Kd.R_drewN | apply Kd.R_drew)); exact HO_12.out⟩, ⟨by repeat (first | (with_reducible first | exact HB.out | apply below_alloc | apply pw_below_drewN | apply below_drew1) | exact HB.out)⟩⟩
                                  · rw [if_neg c61] at H
                                    exact absurd H (by simp)
                                · rw [if_neg c60] at H
                                  exact absurd H (by simp)
                              · rw [if_neg c59] at H
                                exact absurd H (by simp)
                            · rw [if_neg c58] at H
                              exact absurd H (by simp)
                          · rw [if_neg c56] at H
                            have c56b0 : decide (t206 < x14_2) = false := decide_eq_false c56
                            clear c56
                            have H' := Aside0.mk H
                            clear H
                            go_wp2
                            repeat (go_quiet (fail); try go_wp2)
                            go_roundg kj29
                            case measure => have := HJ7.out; have := HK2.out; have := HJ29.out; omega
                            case rel => exact ⟨(wrap64 (x14_2 + 1)), (by first | rfl | (simp; done) | (simp [*]; done)), H', ⟨by have := HJ7.out; have := HK2.out; have := HJ29.out; omega⟩, ⟨by (with_reducible repeat (first | apply Kd.R_alloc | apply Kd.R_drewN | apply Kd.R_drew)); exact HO_10.out⟩, ⟨by (with_reducible repeat (first | apply Kd.R_alloc | apply Kd.R_drewN | apply Kd.R_drew)); exact HO_12.out⟩, ⟨by repeat (first | (with_reducible first | exact HB.out | apply below_alloc | apply pw_below_drewN | apply below_drew1) | exact HB.out)⟩⟩
                      · rw [if_neg c42] at H
                        have c42b0 : decide (x14_2 < t204) = false := decide_eq_false c42
                        clear c42
                        have H' := Aside0.mk H
                        clear H
                        go_wp2
                        repeat (go_quiet (fail); try go_wp2)
                        go_roundg kj29
                        case measure => have := HJ7.out; have := HK2.out; have := HJ29.out; omega
                        case rel => exact ⟨(wrap64 (x14_2 + 1)), (by first | rfl | (simp; done) | (simp [*]; done)), H', ⟨by have := HJ7.out; have := HK2.out; have := HJ29.out; omega⟩, ⟨by (with_reducible repeat (first | apply Kd.R_alloc | apply Kd.R_drewN | apply Kd.R_drew)); exact HO_10.out⟩, ⟨by (with_reducible repeat (first | apply Kd.R_alloc | apply Kd.R_drewN | apply Kd.R_drew)); exact HO_12.out⟩, ⟨by repeat (first | (with_reducible first | exact HB.out | apply below_alloc | apply pw_below_drewN | apply below_drew1) | exact HB.out)⟩⟩
                    · rw [if_neg c41] at H
                      have c41b0 : decide (1 < x14_2) = false := decide_eq_false c41
                      clear c41
                      have H' := Aside0.mk H
                      clear H
                      go_wp2
                      repeat (go_quiet (fail); try go_wp2)
                      go_roundg kj29
                      case measure => have := HJ7.out; have := HK2.out; have := HJ29.out; omega
                      case rel => exact ⟨(wrap64 (x14_2 + 1)), (by first | rfl | (simp; done) | (simp [*]; done)), H', ⟨by have := HJ7.out; have := HK2.out; have := HJ29.out; omega⟩, ⟨by (with_reducible repeat (first | apply Kd.R_alloc | apply Kd.R_drewN | apply Kd.R_drew)); exact HO_10.out⟩, ⟨by (with_reducible repeat (first | apply Kd.R_alloc | apply Kd.R_drewN | apply Kd.R_drew)); exact HO_12.out⟩, ⟨by repeat (first | (with_reducible first | exact HB.out | apply below_alloc | apply pw_below_drewN | apply below_drew1) | exact HB.out)⟩⟩
            · rw [if_neg c29] at H
              have c29b0 : decide (x14_2 ≤ t204) = false := decide_eq_false c29
              clear c29
              replace H := Option.bind_eq_some_iff.mp H
              obtain ⟨t216, A650, H⟩ := H
              replace H : (some t216) = some r := H
              have A65 := Aside0.mk A650
              clear A650
              obtain rfl := Option.some.inj H
              go_wp2_with (first | (go_at_call 10; (with_reducible refine (dioramalaw23_lives.calls k2  t216 _ A65.out).mono ?_); rintro e w66 ⟨rfl, hb⟩; have n0_ := Aside0.mk (Kd.R_below (by (with_reducible repeat (first | apply Kd.R_alloc | apply Kd.R_drewN | apply Kd.R_drew)); exact HO_10.out) hb); have n1_ := Aside0.mk (Kd.R_below (by (with_reducible repeat (first | apply Kd.R_alloc | apply Kd.R_drewN | apply Kd.R_drew)); exact HO_12.out) hb); have n2_ := Aside0.mk (below_step (by repeat (first | (with_reducible first | exact HB.out | apply below_alloc | apply pw_below_drewN | apply below_drew1) | exact HB.out)) hb); clear HO_10; clear HO_12; clear HB; have HO_10 := n0_; have HO_12 := n1_; have HB := n2_; clear n0_ n1_ n2_; (try clear hb); (try clear hb2); (try clear hk); (try clear hi)))
              repeat (go_quiet (first | (go_at_call 10; (with_reducible refine (dioramalaw23_lives.calls k2  t216 _ A65.out).mono ?_); rintro e w66 ⟨rfl, hb⟩; have n0_ := Aside0.mk (Kd.R_below (by (with_reducible repeat (first | apply Kd.R_alloc | apply Kd.R_drewN | apply Kd.R_drew)); exact HO_10.out) hb); have n1_ := Aside0.mk (Kd.R_below (by (with_reducible repeat (first | apply Kd.R_alloc | apply Kd.R_drewN | apply Kd.R_drew)); exact HO_12.out) hb); have n2_ := Aside0.mk (below_step (by repeat (first | (with_reducible first | exact HB.out | apply below_alloc | apply pw_below_drewN | apply below_drew1) | exact HB.out)) hb); clear HO_10; clear HO_12; clear HB; have HO_10 := n0_; have HO_12 := n1_; have HB := n2_; clear n0_ n1_ n2_; (try clear hb); (try clear hb2); (try clear hk); (try clear hi))); try go_wp2_with (first | (go_at_call 10; (with_reducible refine (dioramalaw23_lives.calls k2  t216 _ A65.out).mono ?_); rintro e w66 ⟨rfl, hb⟩; have n0_ := Aside0.mk (Kd.R_below (by (with_reducible repeat (first | apply Kd.R_alloc | apply Kd.R_drewN | apply Kd.R_drew)); exact HO_10.out) hb); have n1_ := Aside0.mk (Kd.R_below (by (with_reducible repeat (first | apply Kd.R_alloc | apply Kd.R_drewN | apply Kd.R_drew)); exact HO_12.out) hb); have n2_ := Aside0.mk (below_step (by repeat (first | (with_reducible first | exact HB.out | apply below_alloc | apply pw_below_drewN | apply below_drew1) | exact HB.out)) hb); clear HO_10; clear HO_12; clear HB; have HO_10 := n0_; have HO_12 := n1_; have HB := n2_; clear n0_ n1_ n2_; (try clear hb); (try clear hb2); (try clear hk); (try clear hi))))
              go_ret
              exact ⟨by first | rfl | (simp [errW_none, errW_some] <;> rfl) | (simp [*, errW_none, errW_some] <;> rfl), by repeat (first | (with_reducible first | exact HB.out | apply below_alloc | apply pw_below_drewN | apply below_drew1) | exact HB.out)⟩

/-- THE ONE PURE STATEMENT of dioramalaw23_NoiseShapes: yours. -/
def dioramalaw23_NoiseShapes.Pure : Prop := ∀ (a0 : Int) (a1 : Int) (a2 : Int), (Lit.int .i64 a0).wf = true → (Lit.int .i64 a1).wf = true → (Lit.int .i64 a2).wf = true → ∃ k, dioramalaw23_NoiseShapes.f k a0 a1 a2 = some true
theorem dioramalaw23_NoiseShapes.walk (P : dioramalaw23_NoiseShapes.Pure) (a0 : Int) (a1 : Int) (a2 : Int) (w : World) (w0 : (Lit.int .i64 a0).wf = true) (w1 : (Lit.int .i64 a1).wf = true) (w2 : (Lit.int .i64 a2).wf = true) :
    Calls Try.prog 5 #[.int .i64 a0, .int .i64 a1, .int .i64 a2] w fun e w' => e = .returned (.bool true) ∧ Below w.heap.size w w' := by
  obtain ⟨k, h⟩ := P a0 a1 a2 w0 w1 w2
  refine (dioramalaw23_NoiseShapes.calls k a0 a1 a2 true w h).mono ?_
  rintro e w' ⟨rfl, hd⟩
  exact ⟨rfl, hd⟩

end Go.Proofs.Ytkjafjoknipaiaa.Q
