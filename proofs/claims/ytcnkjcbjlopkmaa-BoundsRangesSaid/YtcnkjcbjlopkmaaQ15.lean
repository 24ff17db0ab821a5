-- Printed by wip/tools/myprint.py
import Derived.Test.YtcnkjcbjlopkmaaQ0
namespace Go.Proofs.Ytcnkjcbjlopkmaa.Q
open Go.RowKit Go.Proofs.YtcnkjcbjlopkmaaW.PrintWords Go.Proofs.YtcnkjcbjlopkmaaW.PrintLast Go.Proofs.YtcnkjcbjlopkmaaW.PrintMore
attribute [local go_sem] max2_int min2_int max_two min_two max_three min_three max_four min_four
set_option linter.unusedVariables false
set_option linter.unusedSimpArgs false
mutual
def r14_Range.j0 : Nat → List (List Int) → List Int → Int → Bool → Option (Int × Int × Int)
 | 0, _, _, _, _ => none
 | k + 1, x0, x1, x7, x27 => if x27 = true then (some (0, 0, 1)) else (r14_Range.l0 k x0 x1 x7 0)
def r14_Range.l0 : Nat → List (List Int) → List Int → Int → Int → Option (Int × Int × Int)
 | 0, _, _, _, _ => none
 | k + 1, x0, x1, x7, x8 => if x8 ≤ x7 then (if 0 ≤ x8 then (if x8 < (x0.length : Int) then (if ((rd_L4 x0 x8).length : Int) = (wrap64 (x7 + 1)) then (r14_Range.l1 k x0 x1 x7 x8 0) else (some (0, 0, 1))) else (none)) else (none)) else (r14_Range.l2 k x0 x1 x7 0)
def r14_Range.l1 : Nat → List (List Int) → List Int → Int → Int → Int → Option (Int × Int × Int)
 | 0, _, _, _, _, _ => none
 | k + 1, x0, x1, x7, x8, x9 => if x9 ≤ x7 then (if 0 ≤ x8 then (if x8 < (x0.length : Int) then (if 0 ≤ x9 then (if x9 < ((rd_L4 x0 x8).length : Int) then (if (rd (rd_L4 x0 x8) x9) < (-1099511627776) then (some (0, 0, 1)) else (if (rd (rd_L4 x0 x8) x9) > 1099511627776 then (some (0, 0, 1)) else (r14_Range.l1 k x0 x1 x7 x8 (wrap64 (x9 + 1))))) else (none)) else (none)) else (none)) else (none)) else (r14_Range.l0 k x0 x1 x7 (wrap64 (x8 + 1)))
def r14_Range.l2 : Nat → List (List Int) → List Int → Int → Int → Option (Int × Int × Int)
 | 0, _, _, _, _ => none
 | k + 1, x0, x1, x7, x10 => if x10 < (x1.length : Int) then (if 0 ≤ x10 then (if (rd x1 x10) < (-1099511627776) then (some (0, 0, 1)) else (if (rd x1 x10) > 1099511627776 then (some (0, 0, 1)) else (r14_Range.l2 k x0 x1 x7 (wrap64 (x10 + 1))))) else (none)) else (if (x1.length : Int) ≥ x7 then (some (0, 0, 6)) else (r14_Range.l3 k x0 x1 x7 (x1.length : Int) (-1099511627776) 1099511627776 false false 0))
def r14_Range.l3 : Nat → List (List Int) → List Int → Int → Int → Int → Int → Bool → Bool → Int → Option (Int × Int × Int)
 | 0, _, _, _, _, _, _, _, _, _ => none
 | k + 1, x0, x1, x7, x11, x12, x13, x14, x15, x16 => if x16 ≤ x11 then (if x16 < x11 then (if 0 ≤ x16 then (if x16 < (x1.length : Int) then (r14_Range.j5 k x0 x1 x7 x11 x12 x13 x14 x15 x16 x16 (rd x1 x16)) else (none)) else (none)) else (r14_Range.j5 k x0 x1 x7 x11 x12 x13 x14 x15 x16 x7 0)) else (if x12 > x13 then (some (0, 0, 14)) else (some (x12, x13, 0)))
def r14_Range.j5 : Nat → List (List Int) → List Int → Int → Int → Int → Int → Bool → Bool → Int → Int → Int → Option (Int × Int × Int)
 | 0, _, _, _, _, _, _, _, _, _, _, _ => none
 | k + 1, x0, x1, x7, x11, x12, x13, x14, x15, x16, x17, x18 => if 0 ≤ x17 then (if x17 < (x0.length : Int) then (if 0 ≤ x11 then (if x11 < ((rd_L4 x0 x17).length : Int) then (if (rd (rd_L4 x0 x17) x11) < 1099511627776 then (if x14 = true then (if (wrap64 (x18 - (rd (rd_L4 x0 x17) x11))) > x12 then (r14_Range.j6 k x0 x1 x7 x11 (wrap64 (x18 - (rd (rd_L4 x0 x17) x11))) x13 true x15 x16 x17 x18) else (r14_Range.j6 k x0 x1 x7 x11 x12 x13 true x15 x16 x17 x18)) else (r14_Range.j6 k x0 x1 x7 x11 (wrap64 (x18 - (rd (rd_L4 x0 x17) x11))) x13 true x15 x16 x17 x18)) else (r14_Range.j6 k x0 x1 x7 x11 x12 x13 x14 x15 x16 x17 x18)) else (none)) else (none)) else (none)) else (none)
def r14_Range.j6 : Nat → List (List Int) → List Int → Int → Int → Int → Int → Bool → Bool → Int → Int → Int → Option (Int × Int × Int)
 | 0, _, _, _, _, _, _, _, _, _, _, _ => none
 | k + 1, x0, x1, x7, x11, x12, x13, x14, x15, x16, x17, x18 => if 0 ≤ x11 then (if x11 < (x0.length : Int) then (if 0 ≤ x17 then (if x17 < ((rd_L4 x0 x11).length : Int) then (if (rd (rd_L4 x0 x11) x17) < 1099511627776 then (if x15 = true then (if (wrap64 (x18 + (rd (rd_L4 x0 x11) x17))) < x13 then (r14_Range.l3 k x0 x1 x7 x11 x12 (wrap64 (x18 + (rd (rd_L4 x0 x11) x17))) x14 true (wrap64 (x16 + 1))) else (r14_Range.l3 k x0 x1 x7 x11 x12 x13 x14 true (wrap64 (x16 + 1)))) else (r14_Range.l3 k x0 x1 x7 x11 x12 (wrap64 (x18 + (rd (rd_L4 x0 x11) x17))) x14 true (wrap64 (x16 + 1)))) else (r14_Range.l3 k x0 x1 x7 x11 x12 x13 x14 x15 (wrap64 (x16 + 1)))) else (none)) else (none)) else (none)) else (none)
end
def r14_Range.f (k : Nat) (l0 : List (List Int)) (l1 : List Int) : Option (Int × Int × Int) := if (wrap64 ((l0.length : Int) - 1)) < 0 then (r14_Range.j0 k l0 l1 (wrap64 ((l0.length : Int) - 1)) true) else (r14_Range.j0 k l0 l1 (wrap64 ((l0.length : Int) - 1)) (decide ((wrap64 ((l0.length : Int) - 1)) > 10)))
theorem r14_Range.mono_l : ∀ k, (∀ y0 y1 y2 y3, LeO (r14_Range.j0 k y0 y1 y2 y3) (r14_Range.j0 (k + 1) y0 y1 y2 y3)) ∧ (∀ y0 y1 y2 y3, LeO (r14_Range.l0 k y0 y1 y2 y3) (r14_Range.l0 (k + 1) y0 y1 y2 y3)) ∧ (∀ y0 y1 y2 y3 y4, LeO (r14_Range.l1 k y0 y1 y2 y3 y4) (r14_Range.l1 (k + 1) y0 y1 y2 y3 y4)) ∧ (∀ y0 y1 y2 y3, LeO (r14_Range.l2 k y0 y1 y2 y3) (r14_Range.l2 (k + 1) y0 y1 y2 y3)) ∧ (∀ y0 y1 y2 y3 y4 y5 y6 y7 y8, LeO (r14_Range.l3 k y0 y1 y2 y3 y4 y5 y6 y7 y8) (r14_Range.l3 (k + 1) y0 y1 y2 y3 y4 y5 y6 y7 y8)) ∧ (∀ y0 y1 y2 y3 y4 y5 y6 y7 y8 y9 y10, LeO (r14_Range.j5 k y0 y1 y2 y3 y4 y5 y6 y7 y8 y9 y10) (r14_Range.j5 (k + 1) y0 y1 y2 y3 y4 y5 y6 y7 y8 y9 y10)) ∧ (∀ y0 y1 y2 y3 y4 y5 y6 y7 y8 y9 y10, LeO (r14_Range.j6 k y0 y1 y2 y3 y4 y5 y6 y7 y8 y9 y10) (r14_Range.j6 (k + 1) y0 y1 y2 y3 y4 y5 y6 y7 y8 y9 y10))
 | 0 => ⟨fun _ _ _ _ r h => by simp [r14_Range.j0] at h, fun _ _ _ _ r h => by simp [r14_Range.l0] at h, fun _ _ _ _ _ r h => by simp [r14_Range.l1] at h, fun _ _ _ _ r h => by simp [r14_Range.l2] at h, fun _ _ _ _ _ _ _ _ _ r h => by simp [r14_Range.l3] at h, fun _ _ _ _ _ _ _ _ _ _ _ r h => by simp [r14_Range.j5] at h, fun _ _ _ _ _ _ _ _ _ _ _ r h => by simp [r14_Range.j6] at h⟩
 | k + 1 => by
  obtain ⟨ih0, ih1, ih2, ih3, ih4, ih5, ih6⟩ := r14_Range.mono_l k
  refine ⟨?_, ?_, ?_, ?_, ?_, ?_, ?_⟩
  ·intro y0 y1 y2 y3
   unfold r14_Range.j0
   repeat' first
   | (with_reducible exact ih0 _ _ _ _)
   | (with_reducible exact ih1 _ _ _ _)
   | (with_reducible exact ih2 _ _ _ _ _)
   | (with_reducible exact ih3 _ _ _ _)
   | (with_reducible exact ih4 _ _ _ _ _ _ _ _ _)
   | (with_reducible exact ih5 _ _ _ _ _ _ _ _ _ _ _)
   | (with_reducible exact ih6 _ _ _ _ _ _ _ _ _ _ _)
   | (with_reducible exact LeO.refl _)
   | (with_reducible exact LeO.none _)
   | (with_reducible refine LeO.ite ?_ ?_)
   | (with_reducible refine LeO.bind ?_ (fun _ => ?_))
   | exact LeO.none _
   | refine LeO.ite ?_ ?_
   | refine LeO.bind ?_ (fun _ => ?_)
  ·intro y0 y1 y2 y3
   unfold r14_Range.l0
   repeat' first
   | (with_reducible exact ih0 _ _ _ _)
   | (with_reducible exact ih1 _ _ _ _)
   | (with_reducible exact ih2 _ _ _ _ _)
   | (with_reducible exact ih3 _ _ _ _)
   | (with_reducible exact ih4 _ _ _ _ _ _ _ _ _)
   | (with_reducible exact ih5 _ _ _ _ _ _ _ _ _ _ _)
   | (with_reducible exact ih6 _ _ _ _ _ _ _ _ _ _ _)
   | (with_reducible exact LeO.refl _)
   | (with_reducible exact LeO.none _)
   | (with_reducible refine LeO.ite ?_ ?_)
   | (with_reducible refine LeO.bind ?_ (fun _ => ?_))
   | exact LeO.none _
   | refine LeO.ite ?_ ?_
   | refine LeO.bind ?_ (fun _ => ?_)
  ·intro y0 y1 y2 y3 y4
   unfold r14_Range.l1
   repeat' first
   | (with_reducible exact ih0 _ _ _ _)
   | (with_reducible exact ih1 _ _ _ _)
   | (with_reducible exact ih2 _ _ _ _ _)
   | (with_reducible exact ih3 _ _ _ _)
   | (with_reducible exact ih4 _ _ _ _ _ _ _ _ _)
   | (with_reducible exact ih5 _ _ _ _ _ _ _ _ _ _ _)
   | (with_reducible exact ih6 _ _ _ _ _ _ _ _ _ _ _)
   | (with_reducible exact LeO.refl _)
   | (with_reducible exact LeO.none _)
   | (with_reducible refine LeO.ite ?_ ?_)
   | (with_reducible refine LeO.bind ?_ (fun _ => ?_))
   | exact LeO.none _
   | refine LeO.ite ?_ ?_
   | refine LeO.bind ?_ (fun _ => ?_)
  ·intro y0 y1 y2 y3
   unfold r14_Range.l2
   repeat' first
   | (with_reducible exact ih0 _ _ _ _)
   | (with_reducible exact ih1 _ _ _ _)
   | (with_reducible exact ih2 _ _ _ _ _)
   | (with_reducible exact ih3 _ _ _ _)
   | (with_reducible exact ih4 _ _ _ _ _ _ _ _ _)
   | (with_reducible exact ih5 _ _ _ _ _ _ _ _ _ _ _)
   | (with_reducible exact ih6 _ _ _ _ _ _ _ _ _ _ _)
   | (with_reducible exact LeO.refl _)
   | (with_reducible exact LeO.none _)
   | (with_reducible refine LeO.ite ?_ ?_)
   | (with_reducible refine LeO.bind ?_ (fun _ => ?_))
   | exact LeO.none _
   | refine LeO.ite ?_ ?_
   | refine LeO.bind ?_ (fun _ => ?_)
  ·intro y0 y1 y2 y3 y4 y5 y6 y7 y8
   unfold r14_Range.l3
   repeat' first
   | (with_reducible exact ih0 _ _ _ _)
   | (with_reducible exact ih1 _ _ _ _)
   | (with_reducible exact ih2 _ _ _ _ _)
   | (with_reducible exact ih3 _ _ _ _)
   | (with_reducible exact ih4 _ _ _ _ _ _ _ _ _)
   | (with_reducible exact ih5 _ _ _ _ _ _ _ _ _ _ _)
   | (with_reducible exact ih6 _ _ _ _ _ _ _ _ _ _ _)
   | (with_reducible exact LeO.refl _)
   | (with_reducible exact LeO.none _)
   | (with_reducible refine LeO.ite ?_ ?_)
   | (with_reducible refine LeO.bind ?_ (fun _ => ?_))
   | exact LeO.none _
   | refine LeO.ite ?_ ?_
   | refine LeO.bind ?_ (fun _ => ?_)
  ·intro y0 y1 y2 y3 y4 y5 y6 y7 y8 y9 y10
   unfold r14_Range.j5
   repeat' first
   | (with_reducible exact ih0 _ _ _ _)
   | (with_reducible exact ih1 _ _ _ _)
   | (with_reducible exact ih2 _ _ _ _ _)
   | (with_reducible exact ih3 _ _ _ _)
   | (with_reducible exact ih4 _ _ _ _ _ _ _ _ _)
   | (with_reducible exact ih5 _ _ _ _ _ _ _ _ _ _ _)
   | (with_reducible exact ih6 _ _ _ _ _ _ _ _ _ _ _)
   | (with_reducible exact LeO.refl _)
   | (with_reducible exact LeO.none _)
   | (with_reducible refine LeO.ite ?_ ?_)
   | (with_reducible refine LeO.bind ?_ (fun _ => ?_))
   | exact LeO.none _
   | refine LeO.ite ?_ ?_
   | refine LeO.bind ?_ (fun _ => ?_)
  ·intro y0 y1 y2 y3 y4 y5 y6 y7 y8 y9 y10
   unfold r14_Range.j6
   repeat' first
   | (with_reducible exact ih0 _ _ _ _)
   | (with_reducible exact ih1 _ _ _ _)
   | (with_reducible exact ih2 _ _ _ _ _)
   | (with_reducible exact ih3 _ _ _ _)
   | (with_reducible exact ih4 _ _ _ _ _ _ _ _ _)
   | (with_reducible exact ih5 _ _ _ _ _ _ _ _ _ _ _)
   | (with_reducible exact ih6 _ _ _ _ _ _ _ _ _ _ _)
   | (with_reducible exact LeO.refl _)
   | (with_reducible exact LeO.none _)
   | (with_reducible refine LeO.ite ?_ ?_)
   | (with_reducible refine LeO.bind ?_ (fun _ => ?_))
   | exact LeO.none _
   | refine LeO.ite ?_ ?_
   | refine LeO.bind ?_ (fun _ => ?_)
theorem r14_Range.mono : ∀ a0 a1 k, LeO (r14_Range.f k a0 a1) (r14_Range.f (k + 1) a0 a1) := by
 intro a0 a1 k
 obtain ⟨ih0, ih1, ih2, ih3, ih4, ih5, ih6⟩ := r14_Range.mono_l k
 unfold r14_Range.f
 repeat' first
   | (with_reducible exact ih0 _ _ _ _)
   | (with_reducible exact ih1 _ _ _ _)
   | (with_reducible exact ih2 _ _ _ _ _)
   | (with_reducible exact ih3 _ _ _ _)
   | (with_reducible exact ih4 _ _ _ _ _ _ _ _ _)
   | (with_reducible exact ih5 _ _ _ _ _ _ _ _ _ _ _)
   | (with_reducible exact ih6 _ _ _ _ _ _ _ _ _ _ _)
   | (with_reducible exact LeO.refl _)
   | (with_reducible exact LeO.none _)
   | (with_reducible refine LeO.ite ?_ ?_)
   | (with_reducible refine LeO.bind ?_ (fun _ => ?_))
   | exact LeO.none _
   | refine LeO.ite ?_ ?_
   | refine LeO.bind ?_ (fun _ => ?_)
set_option maxHeartbeats 8000000 in
set_option maxRecDepth 100000 in
theorem r14_Range.calls (k : Nat) (A0 : Option Addr) (c0 : Nat) (l0 : List (List Int)) (A1 : Option Addr) (c1 : Nat) (l1 : List Int) (r1 : Int) (r2 : Int) (r3 : Int) (w : World) (hr0 : Kd.C (Kd.slice 3 (Kd.int .i64)) w A0 l0.length l0) (hc0 : l0.length ≤ c0) (hr1 : Kd.C (Kd.int .i64) w A1 l1.length l1) (hc1 : l1.length ≤ c1) (h : r14_Range.f k l0 l1 = some (r1, r2, r3)) :
  Calls Try.prog 22 #[.slice A0 l0.length c0, .slice A1 l1.length c1] w fun e w' => e = .returned (.tuple #[.int .i64 r1, .int .i64 r2, .int .i64 r3]) ∧ Drawn0 w w' := by
 have HR0 := Aside0.mk hr0
 have HC0 := Aside0.mk hc0
 clear hr0 hc0
 have HR1 := Aside0.mk hr1
 have HC1 := Aside0.mk hc1
 clear hr1 hc1
 have H : (if (wrap64 ((l0.length : Int) - 1)) < 0 then (r14_Range.j0 k l0 l1 (wrap64 ((l0.length : Int) - 1)) true) else (r14_Range.j0 k l0 l1 (wrap64 ((l0.length : Int) - 1)) (decide ((wrap64 ((l0.length : Int) - 1)) > 10)))) = some (r1, r2, r3) := h
 clear h
 have HC3 := Aside0.mk H
 clear H
 go_enter Try.func22, Try.ntmps22
 go_upto_region 2 with (fail)
 go_cut [27] (fun v27 wc => ∃ (kq : Nat) (x27_2 : Bool), v27 = .bool x27_2 ∧ Aside0 (r14_Range.j0 kq l0 l1 (wrap64 ((l0.length : Int) - 1)) x27_2 = some (r1, r2, r3)) ∧ Aside0 (kq ≤ k) ∧ Drawn0 w wc)
 case first =>
  have H := HC3.out
  clear HC3
  by_cases c4 : (wrap64 ((l0.length : Int) - 1)) < 0
  ·rw [if_pos c4] at H
   have c4b0 : decide ((wrap64 ((l0.length : Int) - 1)) < 0) = true := decide_eq_true c4
   clear c4
   (first | rw [c4b0] | (simp only [i64_w, i32_w]; rw [c4b0]) | skip)
   have H' := Aside0.mk H
   clear H
   go_wp2
   go_meet
   case rel => exact ⟨_, (true), (by first | rfl | (simp; done) | (simp [*]; done)), H', ⟨by first | omega | exact Nat.le_refl _⟩, by repeat (first | exact Drawn0.refl _ | apply Drawn0.step)⟩
  ·rw [if_neg c4] at H
   have c4b0 : decide ((wrap64 ((l0.length : Int) - 1)) < 0) = false := decide_eq_false c4
   clear c4
   (first | rw [c4b0] | (simp only [i64_w, i32_w]; rw [c4b0]) | skip)
   have H' := Aside0.mk H
   clear H
   go_wp2
   go_meet
   case rel => exact ⟨_, (decide ((wrap64 ((l0.length : Int) - 1)) > 10)), (by first | rfl | (simp; done) | (simp [*]; done)), H', ⟨by first | omega | exact Nat.le_refl _⟩, by repeat (first | exact Drawn0.refl _ | apply Drawn0.step)⟩
 case rest =>
  clear HC3
  try clear c1
  try clear c2
  try clear p2
  try clear c4
  try clear c4b0
  obtain ⟨kq, x27_2, rfl, HA, HJ2, ⟨mc2, rfl⟩⟩ := hcut
  cases kq with
  | zero => exact absurd HA.out (by simp [r14_Range.j0])
  | succ kj2 =>
   have H := HA.out
   clear HA
   simp only [r14_Range.j0] at H
   by_cases c5 : x27_2 = true
   ·subst c5
    have H1 : (some (0, 0, 1)) = some (r1, r2, r3) := by rw [if_pos rfl] at H; exact H
    clear H
    have H := H1
    clear H1
    simp only [Option.some.injEq, Prod.mk.injEq] at H
    obtain ⟨rfl, rfl, rfl⟩ := H
    go_wp2
    go_ret3
    exact ⟨by first | rfl | (simp; done) | (simp [*]; done), by repeat (first | exact Drawn0.refl _ | apply Drawn0.step)⟩
   ·replace c5 := Bool.eq_false_iff.mpr c5
    subst c5
    have H1 : (r14_Range.l0 kj2 l0 l1 (wrap64 ((l0.length : Int) - 1)) 0) = some (r1, r2, r3) := by rw [if_neg (show ¬ (false = true) by decide)] at H; exact H
    clear H
    have H := H1
    clear H1
    have H' := Aside0.mk H
    clear H
    go_wp2
    go_loopg [8] kj2 (fun kq v8 w' => ∃ (x8_2 : Int), v8 = .int .i64 x8_2 ∧ Aside0 (r14_Range.l0 kq l0 l1 (wrap64 ((l0.length : Int) - 1)) x8_2 = some (r1, r2, r3)) ∧ Aside0 (kq ≤ kj2) ∧ Drawn0 w w')
    case atStart => exact ⟨(0), (by first | rfl | (simp; done) | (simp [*]; done)), H', ⟨Nat.le_refl _⟩, by repeat (first | exact Drawn0.refl _ | apply Drawn0.step)⟩
    case round =>
     clear H'
     try clear c1
     try clear c2
     try clear p2
     try clear c4
     try clear c4b0
     try clear c5
     try clear p2
     obtain ⟨x8_2, rfl, HA, HK2, ⟨m2, rfl⟩⟩ := hrel
     cases gk with
     | zero => exact absurd HA.out (by simp [r14_Range.l0])
     | succ k2 =>
      have H := HA.out
      clear HA
      simp only [r14_Range.l0] at H
      by_cases c6 : x8_2 ≤ (wrap64 ((l0.length : Int) - 1))
      ·rw [if_pos c6] at H
       have c6b0 : decide (x8_2 ≤ (wrap64 ((l0.length : Int) - 1))) = true := decide_eq_true c6
       clear c6
       by_cases c7 : 0 ≤ x8_2
       case neg => rw [if_neg c7] at H; exact absurd H (by simp)
       rw [if_pos c7] at H
       have c7b0 : decide (0 ≤ x8_2) = true := decide_eq_true c7
       clear c7
       by_cases c8 : x8_2 < (l0.length : Int)
       case neg => rw [if_neg c8] at H; exact absurd H (by simp)
       rw [if_pos c8] at H
       have c8b0 : decide (x8_2 < (l0.length : Int)) = true := decide_eq_true c8
       clear c8
       by_cases c9 : ((rd_L4 l0 x8_2).length : Int) = (wrap64 ((wrap64 ((l0.length : Int) - 1)) + 1))
       ·rw [if_pos c9] at H
        have c9b0 : (((rd_L4 l0 x8_2).length : Int) == (wrap64 ((wrap64 ((l0.length : Int) - 1)) + 1))) = true := beq_iff_eq.mpr c9
        have c9b1 : (((rd_L4 l0 x8_2).length : Int) != (wrap64 ((wrap64 ((l0.length : Int) - 1)) + 1))) = false := bne_eq_false_iff_eq.mpr c9
        clear c9
        have H' := Aside0.mk H
        clear H
        have p464 : 0 ≤ (x8_2 : Int) := of_decide_eq_true (by assumption)
        have q464 : x8_2 < (l0.length : Int) := of_decide_eq_true (by assumption)
        obtain ⟨ad464, A464_0, c464_0, e464, hx464_0, hl464_0, hi464_0⟩ := at_L4 HR0.out x8_2 p464 q464
        cases e464
        have HR464_0 := Aside0.mk hi464_0
        have HC464_0 := Aside0.mk hl464_0
        clear hi464_0 hl464_0
        replace p464 := eq_true p464
        replace q464 := eq_true q464
        go_wp2
        go_loopg [9] k2 (fun kq v9 w' => ∃ (x9_3 : Int), v9 = .int .i64 x9_3 ∧ Aside0 (r14_Range.l1 kq l0 l1 (wrap64 ((l0.length : Int) - 1)) x8_2 x9_3 = some (r1, r2, r3)) ∧ Aside0 (kq ≤ k2) ∧ Drawn0 w w')
        case atStart => exact ⟨(0), (by first | rfl | (simp; done) | (simp [*]; done)), H', ⟨Nat.le_refl _⟩, by repeat (first | exact Drawn0.refl _ | apply Drawn0.step)⟩
        case round =>
         clear H'
         try clear c1
         try clear c2
         try clear p2
         try clear c4
         try clear c4b0
         try clear p4
         try clear q4
         try clear hx4
         try clear c5
         try clear c6
         try clear c6b0
         try clear p6
         try clear c7
         try clear c7b0
         try clear c8
         try clear c8b0
         try clear c9
         try clear c9b0
         try clear c9b1
         try clear hx464_0
         try clear p2
         try clear p464
         try clear q464
         obtain ⟨x9_3, rfl, HA, HK3, ⟨m3, rfl⟩⟩ := hrel
         cases gk with
         | zero => exact absurd HA.out (by simp [r14_Range.l1])
         | succ k3 =>
          have H := HA.out
          clear HA
          simp only [r14_Range.l1] at H
          by_cases c10 : x9_3 ≤ (wrap64 ((l0.length : Int) - 1))
          ·rw [if_pos c10] at H
           have c10b0 : decide (x9_3 ≤ (wrap64 ((l0.length : Int) - 1))) = true := decide_eq_true c10
           clear c10
           by_cases c11 : 0 ≤ x8_2
           case neg => rw [if_neg c11] at H; exact absurd H (by simp)
           rw [if_pos c11] at H
           have c11b0 : decide (0 ≤ x8_2) = true := decide_eq_true c11
           clear c11
           by_cases c12 : x8_2 < (l0.length : Int)
           case neg => rw [if_neg c12] at H; exact absurd H (by simp)
           rw [if_pos c12] at H
           have c12b0 : decide (x8_2 < (l0.length : Int)) = true := decide_eq_true c12
           clear c12
           by_cases c13 : 0 ≤ x9_3
           case neg => rw [if_neg c13] at H; exact absurd H (by simp)
           rw [if_pos c13] at H
           have c13b0 : decide (0 ≤ x9_3) = true := decide_eq_true c13
           clear c13
           by_cases c14 : x9_3 < ((rd_L4 l0 x8_2).length : Int)
           case neg => rw [if_neg c14] at H; exact absurd H (by simp)
           rw [if_pos c14] at H
           have c14b0 : decide (x9_3 < ((rd_L4 l0 x8_2).length : Int)) = true := decide_eq_true c14
           clear c14
           by_cases c15 : (rd (rd_L4 l0 x8_2) x9_3) < (-1099511627776)
           ·rw [if_pos c15] at H
            have c15b0 : decide ((rd (rd_L4 l0 x8_2) x9_3) < (-1099511627776)) = true := decide_eq_true c15
            clear c15
            simp only [Option.some.injEq, Prod.mk.injEq] at H
            obtain ⟨rfl, rfl, rfl⟩ := H
            have p465 : 0 ≤ (x8_2 : Int) := of_decide_eq_true (by assumption)
            have q465 : x8_2 < (l0.length : Int) := of_decide_eq_true (by assumption)
            obtain ⟨ad465, A465_0, c465_0, e465, hx465_0, hl465_0, hi465_0⟩ := at_L4 HR0.out x8_2 p465 q465
            obtain rfl : ad464 = ad465 := (by injection e465)
            have HR465_0 := Aside0.mk hi465_0
            have HC465_0 := Aside0.mk hl465_0
            clear hi465_0 hl465_0
            replace p465 := eq_true p465
            replace q465 := eq_true q465
            have p466 : 0 ≤ (x9_3 : Int) := of_decide_eq_true (by assumption)
            have q466 : x9_3 < ((rd_L4 l0 x8_2).length : Int) := of_decide_eq_true (by assumption)
            obtain ⟨ad466, e466, hx466_0⟩ := Kd.at_int HR465_0.out x9_3 p466 q466
            cases e466
            replace p466 := eq_true p466
            replace q466 := eq_true q466
            go_wp2
            go_ret3
            exact ⟨by first | rfl | (simp; done) | (simp [*]; done), by repeat (first | exact Drawn0.refl _ | apply Drawn0.step)⟩
           ·rw [if_neg c15] at H
            have c15b0 : decide ((rd (rd_L4 l0 x8_2) x9_3) < (-1099511627776)) = false := decide_eq_false c15
            clear c15
            by_cases c16 : (rd (rd_L4 l0 x8_2) x9_3) > 1099511627776
            ·rw [if_pos c16] at H
             have c16b0 : decide (1099511627776 < (rd (rd_L4 l0 x8_2) x9_3)) = true := decide_eq_true c16
             clear c16
             simp only [Option.some.injEq, Prod.mk.injEq] at H
             obtain ⟨rfl, rfl, rfl⟩ := H
             have p465 : 0 ≤ (x8_2 : Int) := of_decide_eq_true (by assumption)
             have q465 : x8_2 < (l0.length : Int) := of_decide_eq_true (by assumption)
             obtain ⟨ad465, A465_0, c465_0, e465, hx465_0, hl465_0, hi465_0⟩ := at_L4 HR0.out x8_2 p465 q465
             obtain rfl : ad464 = ad465 := (by injection e465)
             have HR465_0 := Aside0.mk hi465_0
             have HC465_0 := Aside0.mk hl465_0
             clear hi465_0 hl465_0
             replace p465 := eq_true p465
             replace q465 := eq_true q465
             have p466 : 0 ≤ (x9_3 : Int) := of_decide_eq_true (by assumption)
             have q466 : x9_3 < ((rd_L4 l0 x8_2).length : Int) := of_decide_eq_true (by assumption)
             obtain ⟨ad466, e466, hx466_0⟩ := Kd.at_int HR465_0.out x9_3 p466 q466
             cases e466
             replace p466 := eq_true p466
             replace q466 := eq_true q466
             have p467 : 0 ≤ (x8_2 : Int) := of_decide_eq_true (by assumption)
             have q467 : x8_2 < (l0.length : Int) := of_decide_eq_true (by assumption)
             obtain ⟨ad467, A467_0, c467_0, e467, hx467_0, hl467_0, hi467_0⟩ := at_L4 HR0.out x8_2 p467 q467
             obtain rfl : ad464 = ad467 := (by injection e467)
             have HR467_0 := Aside0.mk hi467_0
             have HC467_0 := Aside0.mk hl467_0
             clear hi467_0 hl467_0
             replace p467 := eq_true p467
             replace q467 := eq_true q467
             have ea_ := Option.some.inj (hx465_0.symm.trans hx467_0)
             injection ea_ with ea_ en_ ec_
             subst ea_
             subst ec_
             clear en_
             have p468 : 0 ≤ (x9_3 : Int) := of_decide_eq_true (by assumption)
             have q468 : x9_3 < ((rd_L4 l0 x8_2).length : Int) := of_decide_eq_true (by assumption)
             obtain ⟨ad468, e468, hx468_0⟩ := Kd.at_int HR467_0.out x9_3 p468 q468
             cases e468
             replace p468 := eq_true p468
             replace q468 := eq_true q468
             go_wp2
             go_ret3
             exact ⟨by first | rfl | (simp; done) | (simp [*]; done), by repeat (first | exact Drawn0.refl _ | apply Drawn0.step)⟩
            ·rw [if_neg c16] at H
             have c16b0 : decide (1099511627776 < (rd (rd_L4 l0 x8_2) x9_3)) = false := decide_eq_false c16
             clear c16
             have H' := Aside0.mk H
             clear H
             have p465 : 0 ≤ (x8_2 : Int) := of_decide_eq_true (by assumption)
             have q465 : x8_2 < (l0.length : Int) := of_decide_eq_true (by assumption)
             obtain ⟨ad465, A465_0, c465_0, e465, hx465_0, hl465_0, hi465_0⟩ := at_L4 HR0.out x8_2 p465 q465
             obtain rfl : ad464 = ad465 := (by injection e465)
             have HR465_0 := Aside0.mk hi465_0
             have HC465_0 := Aside0.mk hl465_0
             clear hi465_0 hl465_0
             replace p465 := eq_true p465
             replace q465 := eq_true q465
             have p466 : 0 ≤ (x9_3 : Int) := of_decide_eq_true (by assumption)
             have q466 : x9_3 < ((rd_L4 l0 x8_2).length : Int) := of_decide_eq_true (by assumption)
             obtain ⟨ad466, e466, hx466_0⟩ := Kd.at_int HR465_0.out x9_3 p466 q466
             cases e466
             replace p466 := eq_true p466
             replace q466 := eq_true q466
             have p467 : 0 ≤ (x8_2 : Int) := of_decide_eq_true (by assumption)
             have q467 : x8_2 < (l0.length : Int) := of_decide_eq_true (by assumption)
             obtain ⟨ad467, A467_0, c467_0, e467, hx467_0, hl467_0, hi467_0⟩ := at_L4 HR0.out x8_2 p467 q467
             obtain rfl : ad464 = ad467 := (by injection e467)
             have HR467_0 := Aside0.mk hi467_0
             have HC467_0 := Aside0.mk hl467_0
             clear hi467_0 hl467_0
             replace p467 := eq_true p467
             replace q467 := eq_true q467
             have ea_ := Option.some.inj (hx465_0.symm.trans hx467_0)
             injection ea_ with ea_ en_ ec_
             subst ea_
             subst ec_
             clear en_
             have p468 : 0 ≤ (x9_3 : Int) := of_decide_eq_true (by assumption)
             have q468 : x9_3 < ((rd_L4 l0 x8_2).length : Int) := of_decide_eq_true (by assumption)
             obtain ⟨ad468, e468, hx468_0⟩ := Kd.at_int HR467_0.out x9_3 p468 q468
             cases e468
             replace p468 := eq_true p468
             replace q468 := eq_true q468
             go_wp2
             go_roundg k3
             case measure => have := HJ2.out; have := HK2.out; have := HK3.out; omega
             case rel => exact ⟨(wrap64 (x9_3 + 1)), (by first | rfl | (simp; done) | (simp [*]; done)), H', ⟨by have := HJ2.out; have := HK2.out; have := HK3.out; omega⟩, by repeat (first | exact Drawn0.refl _ | apply Drawn0.step)⟩
          ·rw [if_neg c10] at H
           have c10b0 : decide (x9_3 ≤ (wrap64 ((l0.length : Int) - 1))) = false := decide_eq_false c10
           clear c10
           have H' := Aside0.mk H
           clear H
           go_wp2
           go_roundg k3
           case measure => have := HJ2.out; have := HK2.out; have := HK3.out; omega
           case rel => exact ⟨(wrap64 (x8_2 + 1)), (by first | rfl | (simp; done) | (simp [*]; done)), H', ⟨by have := HJ2.out; have := HK2.out; have := HK3.out; omega⟩, by repeat (first | exact Drawn0.refl _ | apply Drawn0.step)⟩
       ·rw [if_neg c9] at H
        have c9b0 : (((rd_L4 l0 x8_2).length : Int) == (wrap64 ((wrap64 ((l0.length : Int) - 1)) + 1))) = false := beq_eq_false_iff_ne.mpr c9
        have c9b1 : (((rd_L4 l0 x8_2).length : Int) != (wrap64 ((wrap64 ((l0.length : Int) - 1)) + 1))) = true := bne_iff_ne.mpr c9
        simp only [Option.some.injEq, Prod.mk.injEq] at H
        obtain ⟨rfl, rfl, rfl⟩ := H
        have p464 : 0 ≤ (x8_2 : Int) := of_decide_eq_true (by assumption)
        have q464 : x8_2 < (l0.length : Int) := of_decide_eq_true (by assumption)
        obtain ⟨ad464, A464_0, c464_0, e464, hx464_0, hl464_0, hi464_0⟩ := at_L4 HR0.out x8_2 p464 q464
        cases e464
        have HR464_0 := Aside0.mk hi464_0
        have HC464_0 := Aside0.mk hl464_0
        clear hi464_0 hl464_0
        replace p464 := eq_true p464
        replace q464 := eq_true q464
        go_wp2
        go_ret3
        exact ⟨by first | rfl | (simp; done) | (simp [*]; done), by repeat (first | exact Drawn0.refl _ | apply Drawn0.step)⟩
      ·rw [if_neg c6] at H
       have c6b0 : decide (x8_2 ≤ (wrap64 ((l0.length : Int) - 1))) = false := decide_eq_false c6
       clear c6
       have H' := Aside0.mk H
       clear H
       go_wp2
       go_loopg [10] k2 (fun kq v10 w' => ∃ (x10_3 : Int), v10 = .int .i64 x10_3 ∧ Aside0 (r14_Range.l2 kq l0 l1 (wrap64 ((l0.length : Int) - 1)) x10_3 = some (r1, r2, r3)) ∧ Aside0 (kq ≤ k2) ∧ Drawn0 w w')
       case atStart => exact ⟨(0), (by first | rfl | (simp; done) | (simp [*]; done)), H', ⟨Nat.le_refl _⟩, by repeat (first | exact Drawn0.refl _ | apply Drawn0.step)⟩
       case round =>
        clear H'
        try clear c1
        try clear c2
        try clear p2
        try clear c4
        try clear c4b0
        try clear p4
        try clear q4
        try clear hx4
        try clear c5
        try clear c6
        try clear c6b0
        try clear p6
        try clear c7
        try clear c7b0
        try clear c8
        try clear c8b0
        try clear c9
        try clear c9b0
        try clear c9b1
        try clear c10
        try clear c10b0
        try clear c11
        try clear c11b0
        try clear c12
        try clear c12b0
        try clear c13
        try clear c13b0
        try clear c14
        try clear c14b0
        try clear c15
        try clear c15b0
        try clear c16
        try clear c16b0
        try clear hx464_0
        try clear hx465_0
        try clear hx466_0
        try clear hx467_0
        try clear hx468_0
        try clear p2
        try clear p4
        try clear p464
        try clear p465
        try clear p466
        try clear p467
        try clear p468
        try clear p6
        try clear q4
        try clear q464
        try clear q465
        try clear q466
        try clear q467
        try clear q468
        obtain ⟨x10_3, rfl, HA, HK3, ⟨m3, rfl⟩⟩ := hrel
        cases gk with
        | zero => exact absurd HA.out (by simp [r14_Range.l2])
        | succ k3 =>
         have H := HA.out
         clear HA
         simp only [r14_Range.l2] at H
         by_cases c17 : x10_3 < (l1.length : Int)
         ·rw [if_pos c17] at H
          have c17b0 : decide (x10_3 < (l1.length : Int)) = true := decide_eq_true c17
          clear c17
          by_cases c18 : 0 ≤ x10_3
          case neg => rw [if_neg c18] at H; exact absurd H (by simp)
          rw [if_pos c18] at H
          have c18b0 : decide (0 ≤ x10_3) = true := decide_eq_true c18
          clear c18
          by_cases c19 : (rd l1 x10_3) < (-1099511627776)
          ·rw [if_pos c19] at H
           have c19b0 : decide ((rd l1 x10_3) < (-1099511627776)) = true := decide_eq_true c19
           clear c19
           simp only [Option.some.injEq, Prod.mk.injEq] at H
           obtain ⟨rfl, rfl, rfl⟩ := H
           have p469 : 0 ≤ (x10_3 : Int) := of_decide_eq_true (by assumption)
           have q469 : x10_3 < (l1.length : Int) := of_decide_eq_true (by assumption)
           obtain ⟨ad469, e469, hx469_0⟩ := Kd.at_int HR1.out x10_3 p469 q469
           cases e469
           replace p469 := eq_true p469
           replace q469 := eq_true q469
           go_wp2
           go_ret3
           exact ⟨by first | rfl | (simp; done) | (simp [*]; done), by repeat (first | exact Drawn0.refl _ | apply Drawn0.step)⟩
          ·rw [if_neg c19] at H
           have c19b0 : decide ((rd l1 x10_3) < (-1099511627776)) = false := decide_eq_false c19
           clear c19
           by_cases c20 : (rd l1 x10_3) > 1099511627776
           ·rw [if_pos c20] at H
            have c20b0 : decide (1099511627776 < (rd l1 x10_3)) = true := decide_eq_true c20
            clear c20
            simp only [Option.some.injEq, Prod.mk.injEq] at H
            obtain ⟨rfl, rfl, rfl⟩ := H
            have p469 : 0 ≤ (x10_3 : Int) := of_decide_eq_true (by assumption)
            have q469 : x10_3 < (l1.length : Int) := of_decide_eq_true (by assumption)
            obtain ⟨ad469, e469, hx469_0⟩ := Kd.at_int HR1.out x10_3 p469 q469
            cases e469
            replace p469 := eq_true p469
            replace q469 := eq_true q469
            have p470 : 0 ≤ (x10_3 : Int) := of_decide_eq_true (by assumption)
            have q470 : x10_3 < (l1.length : Int) := of_decide_eq_true (by assumption)
            obtain ⟨ad470, e470, hx470_0⟩ := Kd.at_int HR1.out x10_3 p470 q470
            obtain rfl : ad469 = ad470 := (by injection e470)
            replace p470 := eq_true p470
            replace q470 := eq_true q470
            go_wp2
            go_ret3
            exact ⟨by first | rfl | (simp; done) | (simp [*]; done), by repeat (first | exact Drawn0.refl _ | apply Drawn0.step)⟩
           ·rw [if_neg c20] at H
            have c20b0 : decide (1099511627776 < (rd l1 x10_3)) = false := decide_eq_false c20
            clear c20
            have H' := Aside0.mk H
            clear H
            have p469 : 0 ≤ (x10_3 : Int) := of_decide_eq_true (by assumption)
            have q469 : x10_3 < (l1.length : Int) := of_decide_eq_true (by assumption)
            obtain ⟨ad469, e469, hx469_0⟩ := Kd.at_int HR1.out x10_3 p469 q469
            cases e469
            replace p469 := eq_true p469
            replace q469 := eq_true q469
            have p470 : 0 ≤ (x10_3 : Int) := of_decide_eq_true (by assumption)
            have q470 : x10_3 < (l1.length : Int) := of_decide_eq_true (by assumption)
            obtain ⟨ad470, e470, hx470_0⟩ := Kd.at_int HR1.out x10_3 p470 q470
            obtain rfl : ad469 = ad470 := (by injection e470)
            replace p470 := eq_true p470
            replace q470 := eq_true q470
            go_wp2
            go_roundg k3
            case measure => have := HJ2.out; have := HK2.out; have := HK3.out; omega
            case rel => exact ⟨(wrap64 (x10_3 + 1)), (by first | rfl | (simp; done) | (simp [*]; done)), H', ⟨by have := HJ2.out; have := HK2.out; have := HK3.out; omega⟩, by repeat (first | exact Drawn0.refl _ | apply Drawn0.step)⟩
         ·rw [if_neg c17] at H
          have c17b0 : decide (x10_3 < (l1.length : Int)) = false := decide_eq_false c17
          clear c17
          by_cases c21 : (l1.length : Int) ≥ (wrap64 ((l0.length : Int) - 1))
          ·rw [if_pos c21] at H
           have c21b0 : decide ((wrap64 ((l0.length : Int) - 1)) ≤ (l1.length : Int)) = true := decide_eq_true c21
           clear c21
           simp only [Option.some.injEq, Prod.mk.injEq] at H
           obtain ⟨rfl, rfl, rfl⟩ := H
           go_wp2
           go_ret3
           exact ⟨by first | rfl | (simp; done) | (simp [*]; done), by repeat (first | exact Drawn0.refl _ | apply Drawn0.step)⟩
          ·rw [if_neg c21] at H
           have c21b0 : decide ((wrap64 ((l0.length : Int) - 1)) ≤ (l1.length : Int)) = false := decide_eq_false c21
           clear c21
           have H' := Aside0.mk H
           clear H
           go_wp2
           go_loopg [12, 13, 14, 15, 16] k3 (fun kq v12 v13 v14 v15 v16 w' => ∃ (x12_4 : Int) (x13_4 : Int) (x14_4 : Bool) (x15_4 : Bool) (x16_4 : Int), v12 = .int .i64 x12_4 ∧ v13 = .int .i64 x13_4 ∧ v14 = .bool x14_4 ∧ v15 = .bool x15_4 ∧ v16 = .int .i64 x16_4 ∧ Aside0 (r14_Range.l3 kq l0 l1 (wrap64 ((l0.length : Int) - 1)) (l1.length : Int) x12_4 x13_4 x14_4 x15_4 x16_4 = some (r1, r2, r3)) ∧ Aside0 (kq ≤ k3) ∧ Drawn0 w w')
           case atStart => exact ⟨((-1099511627776)), (1099511627776), (false), (false), (0), (by first | rfl | (simp; done) | (simp [*]; done)), (by first | rfl | (simp; done) | (simp [*]; done)), (by first | rfl | (simp; done) | (simp [*]; done)), (by first | rfl | (simp; done) | (simp [*]; done)), (by first | rfl | (simp; done) | (simp [*]; done)), H', ⟨Nat.le_refl _⟩, by repeat (first | exact Drawn0.refl _ | apply Drawn0.step)⟩
           case round =>
            clear H'
            try clear c1
            try clear c2
            try clear p2
            try clear c4
            try clear c4b0
            try clear p4
            try clear q4
            try clear hx4
            try clear c5
            try clear c6
            try clear c6b0
            try clear p6
            try clear c7
            try clear c7b0
            try clear c8
            try clear c8b0
            try clear c9
            try clear c9b0
            try clear c9b1
            try clear c10
            try clear c10b0
            try clear c11
            try clear c11b0
            try clear c12
            try clear c12b0
            try clear c13
            try clear c13b0
            try clear c14
            try clear c14b0
            try clear c15
            try clear c15b0
            try clear c16
            try clear c16b0
            try clear c17
            try clear c17b0
            try clear c18
            try clear c18b0
            try clear c19
            try clear c19b0
            try clear c20
            try clear c20b0
            try clear c21
            try clear c21b0
            try clear hx464_0
            try clear hx465_0
            try clear hx466_0
            try clear hx467_0
            try clear hx468_0
            try clear hx469_0
            try clear hx470_0
            try clear p2
            try clear p4
            try clear p464
            try clear p465
            try clear p466
            try clear p467
            try clear p468
            try clear p469
            try clear p470
            try clear p6
            try clear q4
            try clear q464
            try clear q465
            try clear q466
            try clear q467
            try clear q468
            try clear q469
            try clear q470
            obtain ⟨x12_4, x13_4, x14_4, x15_4, x16_4, rfl, rfl, rfl, rfl, rfl, HA, HK4, ⟨m4, rfl⟩⟩ := hrel
            cases gk with
            | zero => exact absurd HA.out (by simp [r14_Range.l3])
            | succ k4 =>
             have H := HA.out
             clear HA
             simp only [r14_Range.l3] at H
             by_cases c22 : x16_4 ≤ (l1.length : Int)
             ·rw [if_pos c22] at H
              have c22b0 : decide (x16_4 ≤ (l1.length : Int)) = true := decide_eq_true c22
              clear c22
              have HC23 := Aside0.mk H
              clear H
              go_upto_if 95 with (fail)
              go_cut [17, 18] (fun v17 v18 wc => ∃ (kq : Nat) (x17_22 : Int) (x18_22 : Int), v17 = .int .i64 x17_22 ∧ v18 = .int .i64 x18_22 ∧ Aside0 (r14_Range.j5 kq l0 l1 (wrap64 ((l0.length : Int) - 1)) (l1.length : Int) x12_4 x13_4 x14_4 x15_4 x16_4 x17_22 x18_22 = some (r1, r2, r3)) ∧ Aside0 (kq ≤ k4) ∧ Drawn0 w wc)
              case first =>
               have H := HC23.out
               clear HC23
               by_cases c24 : x16_4 < (l1.length : Int)
               ·rw [if_pos c24] at H
                have c24b0 : decide (x16_4 < (l1.length : Int)) = true := decide_eq_true c24
                clear c24
                (first | rw [c24b0] | (simp only [i64_w, i32_w]; rw [c24b0]) | skip)
                by_cases c25 : 0 ≤ x16_4
                case neg => rw [if_neg c25] at H; exact absurd H (by simp)
                rw [if_pos c25] at H
                have c25b0 : decide (0 ≤ x16_4) = true := decide_eq_true c25
                clear c25
                by_cases c26 : x16_4 < (l1.length : Int)
                case neg => rw [if_neg c26] at H; exact absurd H (by simp)
                rw [if_pos c26] at H
                have c26b0 : decide (x16_4 < (l1.length : Int)) = true := decide_eq_true c26
                clear c26
                have H' := Aside0.mk H
                clear H
                have p471 : 0 ≤ (x16_4 : Int) := of_decide_eq_true (by assumption)
                have q471 : x16_4 < (l1.length : Int) := of_decide_eq_true (by assumption)
                obtain ⟨ad471, e471, hx471_0⟩ := Kd.at_int HR1.out x16_4 p471 q471
                cases e471
                replace p471 := eq_true p471
                replace q471 := eq_true q471
                go_wp2
                go_meet
                case rel => exact ⟨_, (x16_4), (rd l1 x16_4), (by first | rfl | (simp; done) | (simp [*]; done)), (by first | rfl | (simp; done) | (simp [*]; done)), H', ⟨by have := HJ2.out; have := HK2.out; have := HK3.out; have := HK4.out; first | omega | exact Nat.le_refl _⟩, by repeat (first | exact Drawn0.refl _ | apply Drawn0.step)⟩
               ·rw [if_neg c24] at H
                have c24b0 : decide (x16_4 < (l1.length : Int)) = false := decide_eq_false c24
                clear c24
                (first | rw [c24b0] | (simp only [i64_w, i32_w]; rw [c24b0]) | skip)
                have H' := Aside0.mk H
                clear H
                go_wp2
                go_meet
                case rel => exact ⟨_, ((wrap64 ((l0.length : Int) - 1))), (0), (by first | rfl | (simp; done) | (simp [*]; done)), (by first | rfl | (simp; done) | (simp [*]; done)), H', ⟨by have := HJ2.out; have := HK2.out; have := HK3.out; have := HK4.out; first | omega | exact Nat.le_refl _⟩, by repeat (first | exact Drawn0.refl _ | apply Drawn0.step)⟩
              case rest =>
               clear HC23
               try clear c1
               try clear c2
               try clear p2
               try clear c4
               try clear c4b0
               try clear p4
               try clear q4
               try clear hx4
               try clear c5
               try clear c6
               try clear c6b0
               try clear p6
               try clear c7
               try clear c7b0
               try clear c8
               try clear c8b0
               try clear c9
               try clear c9b0
               try clear c9b1
               try clear c10
               try clear c10b0
               try clear c11
               try clear c11b0
               try clear c12
               try clear c12b0
               try clear c13
               try clear c13b0
               try clear c14
               try clear c14b0
               try clear c15
               try clear c15b0
               try clear c16
               try clear c16b0
               try clear c17
               try clear c17b0
               try clear c18
               try clear c18b0
               try clear c19
               try clear c19b0
               try clear c20
               try clear c20b0
               try clear c21
               try clear c21b0
               try clear c22
               try clear c22b0
               try clear c24
               try clear c24b0
               try clear c25
               try clear c25b0
               try clear c26
               try clear c26b0
               try clear hx464_0
               try clear hx465_0
               try clear hx466_0
               try clear hx467_0
               try clear hx468_0
               try clear hx469_0
               try clear hx470_0
               try clear hx471_0
               try clear p2
               try clear p4
               try clear p464
               try clear p465
               try clear p466
               try clear p467
               try clear p468
               try clear p469
               try clear p470
               try clear p471
               try clear p6
               try clear q4
               try clear q464
               try clear q465
               try clear q466
               try clear q467
               try clear q468
               try clear q469
               try clear q470
               try clear q471
               obtain ⟨kq, x17_22, x18_22, rfl, rfl, HA, HJ22, ⟨mc22, rfl⟩⟩ := hcut
               cases kq with
               | zero => exact absurd HA.out (by simp [r14_Range.j5])
               | succ kj22 =>
                have H := HA.out
                clear HA
                simp only [r14_Range.j5] at H
                by_cases c27 : 0 ≤ x17_22
                case neg => rw [if_neg c27] at H; exact absurd H (by simp)
                rw [if_pos c27] at H
                have c27b0 : decide (0 ≤ x17_22) = true := decide_eq_true c27
                clear c27
                by_cases c28 : x17_22 < (l0.length : Int)
                case neg => rw [if_neg c28] at H; exact absurd H (by simp)
                rw [if_pos c28] at H
                have c28b0 : decide (x17_22 < (l0.length : Int)) = true := decide_eq_true c28
                clear c28
                by_cases c29 : 0 ≤ (l1.length : Int)
                case neg => rw [if_neg c29] at H; exact absurd H (by simp)
                rw [if_pos c29] at H
                have c29b0 : decide (0 ≤ (l1.length : Int)) = true := decide_eq_true c29
                have c29b1 : decide (0 ≤ l1.length) = true := decide_eq_true (by omega)
                clear c29
                by_cases c30 : (l1.length : Int) < ((rd_L4 l0 x17_22).length : Int)
                case neg => rw [if_neg c30] at H; exact absurd H (by simp)
                rw [if_pos c30] at H
                have c30b0 : decide ((l1.length : Int) < ((rd_L4 l0 x17_22).length : Int)) = true := decide_eq_true c30
                have c30b1 : decide (l1.length < (rd_L4 l0 x17_22).length) = true := decide_eq_true (Int.ofNat_lt.mp c30)
                clear c30
                have HC31 := Aside0.mk H
                clear H
                have p472 : 0 ≤ (x17_22 : Int) := of_decide_eq_true (by assumption)
                have q472 : x17_22 < (l0.length : Int) := of_decide_eq_true (by assumption)
                obtain ⟨ad472, A472_0, c472_0, e472, hx472_0, hl472_0, hi472_0⟩ := at_L4 HR0.out x17_22 p472 q472
                cases e472
                have HR472_0 := Aside0.mk hi472_0
                have HC472_0 := Aside0.mk hl472_0
                clear hi472_0 hl472_0
                replace p472 := eq_true p472
                replace q472 := eq_true q472
                have p473 : 0 ≤ ((l1.length : Int) : Int) := of_decide_eq_true (by assumption)
                have q473 : (l1.length : Int) < ((rd_L4 l0 x17_22).length : Int) := of_decide_eq_true (by assumption)
                obtain ⟨ad473, e473, hx473_0⟩ := Kd.at_int HR472_0.out (l1.length : Int) p473 q473
                cases e473
                (try simp only [Go.IntWalk.toNatUp] at hx473_0)
                replace p473 := eq_true p473
                replace q473 := eq_true q473
                go_upto_if 108 with (fail)
                go_cut [12, 14] (fun v12 v14 wc => ∃ (kq : Nat) (x12_30 : Int) (x14_30 : Bool), v12 = .int .i64 x12_30 ∧ v14 = .bool x14_30 ∧ Aside0 (r14_Range.j6 kq l0 l1 (wrap64 ((l0.length : Int) - 1)) (l1.length : Int) x12_30 x13_4 x14_30 x15_4 x16_4 x17_22 x18_22 = some (r1, r2, r3)) ∧ Aside0 (kq ≤ kj22) ∧ Drawn0 w wc)
                case first =>
                 have H := HC31.out
                 clear HC31
                 by_cases c32 : (rd (rd_L4 l0 x17_22) (l1.length : Int)) < 1099511627776
                 ·rw [if_pos c32] at H
                  have c32b0 : decide ((rd (rd_L4 l0 x17_22) (l1.length : Int)) < 1099511627776) = true := decide_eq_true c32
                  clear c32
                  (first | rw [c32b0] | (simp only [i64_w, i32_w]; rw [c32b0]) | skip)
                  by_cases c33 : x14_4 = true
                  ·subst c33
                   have H1 : (if (wrap64 (x18_22 - (rd (rd_L4 l0 x17_22) (l1.length : Int)))) > x12_4 then (r14_Range.j6 kj22 l0 l1 (wrap64 ((l0.length : Int) - 1)) (l1.length : Int) (wrap64 (x18_22 - (rd (rd_L4 l0 x17_22) (l1.length : Int)))) x13_4 true x15_4 x16_4 x17_22 x18_22) else (r14_Range.j6 kj22 l0 l1 (wrap64 ((l0.length : Int) - 1)) (l1.length : Int) x12_4 x13_4 true x15_4 x16_4 x17_22 x18_22)) = some (r1, r2, r3) := by rw [if_pos rfl] at H; exact H
                   clear H
                   have H := H1
                   clear H1
                   by_cases c34 : (wrap64 (x18_22 - (rd (rd_L4 l0 x17_22) (l1.length : Int)))) > x12_4
                   ·rw [if_pos c34] at H
                    have c34b0 : decide (x12_4 < (wrap64 (x18_22 - (rd (rd_L4 l0 x17_22) (l1.length : Int))))) = true := decide_eq_true c34
                    clear c34
                    have H' := Aside0.mk H
                    clear H
                    have p474 : 0 ≤ (x17_22 : Int) := of_decide_eq_true (by assumption)
                    have q474 : x17_22 < (l0.length : Int) := of_decide_eq_true (by assumption)
                    obtain ⟨ad474, A474_0, c474_0, e474, hx474_0, hl474_0, hi474_0⟩ := at_L4 HR0.out x17_22 p474 q474
                    obtain rfl : ad472 = ad474 := (by injection e474)
                    have HR474_0 := Aside0.mk hi474_0
                    have HC474_0 := Aside0.mk hl474_0
                    clear hi474_0 hl474_0
                    replace p474 := eq_true p474
                    replace q474 := eq_true q474
                    have p475 : 0 ≤ ((l1.length : Int) : Int) := of_decide_eq_true (by assumption)
                    have q475 : (l1.length : Int) < ((rd_L4 l0 x17_22).length : Int) := of_decide_eq_true (by assumption)
                    obtain ⟨ad475, e475, hx475_0⟩ := Kd.at_int HR474_0.out (l1.length : Int) p475 q475
                    cases e475
                    (try simp only [Go.IntWalk.toNatUp] at hx475_0)
                    replace p475 := eq_true p475
                    replace q475 := eq_true q475
                    have p476 : 0 ≤ (x17_22 : Int) := of_decide_eq_true (by assumption)
                    have q476 : x17_22 < (l0.length : Int) := of_decide_eq_true (by assumption)
                    obtain ⟨ad476, A476_0, c476_0, e476, hx476_0, hl476_0, hi476_0⟩ := at_L4 HR0.out x17_22 p476 q476
                    obtain rfl : ad472 = ad476 := (by injection e476)
                    have HR476_0 := Aside0.mk hi476_0
                    have HC476_0 := Aside0.mk hl476_0
                    clear hi476_0 hl476_0
                    replace p476 := eq_true p476
                    replace q476 := eq_true q476
                    have ea_ := Option.some.inj (hx474_0.symm.trans hx476_0)
                    injection ea_ with ea_ en_ ec_
                    subst ea_
                    subst ec_
                    clear en_
                    have p477 : 0 ≤ ((l1.length : Int) : Int) := of_decide_eq_true (by assumption)
                    have q477 : (l1.length : Int) < ((rd_L4 l0 x17_22).length : Int) := of_decide_eq_true (by assumption)
                    obtain ⟨ad477, e477, hx477_0⟩ := Kd.at_int HR476_0.out (l1.length : Int) p477 q477
                    cases e477
                    (try simp only [Go.IntWalk.toNatUp] at hx477_0)
                    replace p477 := eq_true p477
                    replace q477 := eq_true q477
                    go_wp2
                    go_meet
                    case rel => exact ⟨_, (wrap64 (x18_22 - (rd (rd_L4 l0 x17_22) (l1.length : Int)))), (true), (by first | rfl | (simp; done) | (simp [*]; done)), (by first | rfl | (simp; done) | (simp [*]; done)), H', ⟨by have := HJ2.out; have := HK2.out; have := HK3.out; have := HK4.out; have := HJ22.out; first | omega | exact Nat.le_refl _⟩, by repeat (first | exact Drawn0.refl _ | apply Drawn0.step)⟩
                   ·rw [if_neg c34] at H
                    have c34b0 : decide (x12_4 < (wrap64 (x18_22 - (rd (rd_L4 l0 x17_22) (l1.length : Int))))) = false := decide_eq_false c34
                    clear c34
                    have H' := Aside0.mk H
                    clear H
                    have p474 : 0 ≤ (x17_22 : Int) := of_decide_eq_true (by assumption)
                    have q474 : x17_22 < (l0.length : Int) := of_decide_eq_true (by assumption)
                    obtain ⟨ad474, A474_0, c474_0, e474, hx474_0, hl474_0, hi474_0⟩ := at_L4 HR0.out x17_22 p474 q474
                    obtain rfl : ad472 = ad474 := (by injection e474)
                    have HR474_0 := Aside0.mk hi474_0
                    have HC474_0 := Aside0.mk hl474_0
                    clear hi474_0 hl474_0
                    replace p474 := eq_true p474
                    replace q474 := eq_true q474
                    have p475 : 0 ≤ ((l1.length : Int) : Int) := of_decide_eq_true (by assumption)
                    have q475 : (l1.length : Int) < ((rd_L4 l0 x17_22).length : Int) := of_decide_eq_true (by assumption)
                    obtain ⟨ad475, e475, hx475_0⟩ := Kd.at_int HR474_0.out (l1.length : Int) p475 q475
                    cases e475
                    (try simp only [Go.IntWalk.toNatUp] at hx475_0)
                    replace p475 := eq_true p475
                    replace q475 := eq_true q475
                    go_wp2
                    go_meet
                    case rel => exact ⟨_, (x12_4), (true), (by first | rfl | (simp; done) | (simp [*]; done)), (by first | rfl | (simp; done) | (simp [*]; done)), H', ⟨by have := HJ2.out; have := HK2.out; have := HK3.out; have := HK4.out; have := HJ22.out; first | omega | exact Nat.le_refl _⟩, by repeat (first | exact Drawn0.refl _ | apply Drawn0.step)⟩
                  ·replace c33 := Bool.eq_false_iff.mpr c33
                   subst c33
                   have H1 : (r14_Range.j6 kj22 l0 l1 (wrap64 ((l0.length : Int) - 1)) (l1.length : Int) (wrap64 (x18_22 - (rd (rd_L4 l0 x17_22) (l1.length : Int)))) x13_4 true x15_4 x16_4 x17_22 x18_22) = some (r1, r2, r3) := by rw [if_neg (show ¬ (false = true) by decide)] at H; exact H
                   clear H
                   have H := H1
                   clear H1
                   have H' := Aside0.mk H
                   clear H
                   have p478 : 0 ≤ (x17_22 : Int) := of_decide_eq_true (by assumption)
                   have q478 : x17_22 < (l0.length : Int) := of_decide_eq_true (by assumption)
                   obtain ⟨ad478, A478_0, c478_0, e478, hx478_0, hl478_0, hi478_0⟩ := at_L4 HR0.out x17_22 p478 q478
                   obtain rfl : ad472 = ad478 := (by injection e478)
                   have HR478_0 := Aside0.mk hi478_0
                   have HC478_0 := Aside0.mk hl478_0
                   clear hi478_0 hl478_0
                   replace p478 := eq_true p478
                   replace q478 := eq_true q478
                   have p479 : 0 ≤ ((l1.length : Int) : Int) := of_decide_eq_true (by assumption)
                   have q479 : (l1.length : Int) < ((rd_L4 l0 x17_22).length : Int) := of_decide_eq_true (by assumption)
                   obtain ⟨ad479, e479, hx479_0⟩ := Kd.at_int HR478_0.out (l1.length : Int) p479 q479
                   cases e479
                   (try simp only [Go.IntWalk.toNatUp] at hx479_0)
                   replace p479 := eq_true p479
                   replace q479 := eq_true q479
                   go_wp2
                   go_meet
                   case rel => exact ⟨_, (wrap64 (x18_22 - (rd (rd_L4 l0 x17_22) (l1.length : Int)))), (true), (by first | rfl | (simp; done) | (simp [*]; done)), (by first | rfl | (simp; done) | (simp [*]; done)), H', ⟨by have := HJ2.out; have := HK2.out; have := HK3.out; have := HK4.out; have := HJ22.out; first | omega | exact Nat.le_refl _⟩, by repeat (first | exact Drawn0.refl _ | apply Drawn0.step)⟩
                 ·rw [if_neg c32] at H
                  have c32b0 : decide ((rd (rd_L4 l0 x17_22) (l1.length : Int)) < 1099511627776) = false := decide_eq_false c32
                  clear c32
                  (first | rw [c32b0] | (simp only [i64_w, i32_w]; rw [c32b0]) | skip)
                  have H' := Aside0.mk H
                  clear H
                  go_wp2
                  go_meet
                  case rel => exact ⟨_, (x12_4), (x14_4), (by first | rfl | (simp; done) | (simp [*]; done)), (by first | rfl | (simp; done) | (simp [*]; done)), H', ⟨by have := HJ2.out; have := HK2.out; have := HK3.out; have := HK4.out; have := HJ22.out; first | omega | exact Nat.le_refl _⟩, by repeat (first | exact Drawn0.refl _ | apply Drawn0.step)⟩
                case rest =>
                 clear HC31
                 try clear c1
                 try clear c2
                 try clear p2
                 try clear c3
                 try clear c4
                 try clear c4b0
                 try clear p4
                 try clear q4
                 try clear hx4
                 try clear c5
                 try clear c6
                 try clear c6b0
                 try clear p6
                 try clear c7
                 try clear c7b0
                 try clear c8
                 try clear c8b0
                 try clear c9
                 try clear c9b0
                 try clear c9b1
                 try clear c10
                 try clear c10b0
                 try clear c11
                 try clear c11b0
                 try clear c12
                 try clear c12b0
                 try clear c13
                 try clear c13b0
                 try clear c14
                 try clear c14b0
                 try clear c15
                 try clear c15b0
                 try clear c16
                 try clear c16b0
                 try clear c17
                 try clear c17b0
                 try clear c18
                 try clear c18b0
                 try clear c19
                 try clear c19b0
                 try clear c20
                 try clear c20b0
                 try clear c21
                 try clear c21b0
                 try clear c22
                 try clear c22b0
                 try clear c24
                 try clear c24b0
                 try clear c25
                 try clear c25b0
                 try clear c26
                 try clear c26b0
                 try clear c27
                 try clear c27b0
                 try clear c28
                 try clear c28b0
                 try clear c29
                 try clear c29b0
                 try clear c29b1
                 try clear c30
                 try clear c30b0
                 try clear c30b1
                 try clear c32
                 try clear c32b0
                 try clear c33
                 try clear c34
                 try clear c34b0
                 try clear hx464_0
                 try clear hx465_0
                 try clear hx466_0
                 try clear hx467_0
                 try clear hx468_0
                 try clear hx469_0
                 try clear hx470_0
                 try clear hx471_0
                 try clear hx472_0
                 try clear hx473_0
                 try clear hx474_0
                 try clear hx475_0
                 try clear hx476_0
                 try clear hx477_0
                 try clear hx478_0
                 try clear hx479_0
                 try clear p2
                 try clear p4
                 try clear p464
                 try clear p465
                 try clear p466
                 try clear p467
                 try clear p468
                 try clear p469
                 try clear p470
                 try clear p471
                 try clear p472
                 try clear p473
                 try clear p474
                 try clear p475
                 try clear p476
                 try clear p477
                 try clear p478
                 try clear p479
                 try clear p6
                 try clear q4
                 try clear q464
                 try clear q465
                 try clear q466
                 try clear q467
                 try clear q468
                 try clear q469
                 try clear q470
                 try clear q471
                 try clear q472
                 try clear q473
                 try clear q474
                 try clear q475
                 try clear q476
                 try clear q477
                 try clear q478
                 try clear q479
                 obtain ⟨kq, x12_30, x14_30, rfl, rfl, HA, HJ30, ⟨mc30, rfl⟩⟩ := hcut
                 cases kq with
                 | zero => exact absurd HA.out (by simp [r14_Range.j6])
                 | succ kj30 =>
                  have H := HA.out
                  clear HA
                  simp only [r14_Range.j6] at H
                  by_cases c35 : 0 ≤ (l1.length : Int)
                  case neg => rw [if_neg c35] at H; exact absurd H (by simp)
                  rw [if_pos c35] at H
                  have c35b0 : decide (0 ≤ (l1.length : Int)) = true := decide_eq_true c35
                  have c35b1 : decide (0 ≤ l1.length) = true := decide_eq_true (by omega)
                  clear c35
                  by_cases c36 : (l1.length : Int) < (l0.length : Int)
                  case neg => rw [if_neg c36] at H; exact absurd H (by simp)
                  rw [if_pos c36] at H
                  have c36b0 : decide ((l1.length : Int) < (l0.length : Int)) = true := decide_eq_true c36
                  have c36b1 : decide (l1.length < l0.length) = true := decide_eq_true (Int.ofNat_lt.mp c36)
                  clear c36
                  by_cases c37 : 0 ≤ x17_22
                  case neg => rw [if_neg c37] at H; exact absurd H (by simp)
                  rw [if_pos c37] at H
                  have c37b0 : decide (0 ≤ x17_22) = true := decide_eq_true c37
                  clear c37
                  by_cases c38 : x17_22 < ((rd_L4 l0 (l1.length : Int)).length : Int)
                  case neg => rw [if_neg c38] at H; exact absurd H (by simp)
                  rw [if_pos c38] at H
                  have c38b0 : decide (x17_22 < ((rd_L4 l0 (l1.length : Int)).length : Int)) = true := decide_eq_true c38
                  clear c38
                  by_cases c39 : (rd (rd_L4 l0 (l1.length : Int)) x17_22) < 1099511627776
                  ·rw [if_pos c39] at H
                   have c39b0 : decide ((rd (rd_L4 l0 (l1.length : Int)) x17_22) < 1099511627776) = true := decide_eq_true c39
                   clear c39
                   by_cases c40 : x15_4 = true
                   ·subst c40
                    have H1 : (if (wrap64 (x18_22 + (rd (rd_L4 l0 (l1.length : Int)) x17_22))) < x13_4 then (r14_Range.l3 kj30 l0 l1 (wrap64 ((l0.length : Int) - 1)) (l1.length : Int) x12_30 (wrap64 (x18_22 + (rd (rd_L4 l0 (l1.length : Int)) x17_22))) x14_30 true (wrap64 (x16_4 + 1))) else (r14_Range.l3 kj30 l0 l1 (wrap64 ((l0.length : Int) - 1)) (l1.length : Int) x12_30 x13_4 x14_30 true (wrap64 (x16_4 + 1)))) = some (r1, r2, r3) := by rw [if_pos rfl] at H; exact H
                    clear H
                    have H := H1
                    clear H1
                    by_cases c41 : (wrap64 (x18_22 + (rd (rd_L4 l0 (l1.length : Int)) x17_22))) < x13_4
                    ·rw [if_pos c41] at H
                     have c41b0 : decide ((wrap64 (x18_22 + (rd (rd_L4 l0 (l1.length : Int)) x17_22))) < x13_4) = true := decide_eq_true c41
                     clear c41
                     have H' := Aside0.mk H
                     clear H
                     have p480 : 0 ≤ ((l1.length : Int) : Int) := of_decide_eq_true (by assumption)
                     have q480 : (l1.length : Int) < (l0.length : Int) := of_decide_eq_true (by assumption)
                     obtain ⟨ad480, A480_0, c480_0, e480, hx480_0, hl480_0, hi480_0⟩ := at_L4 HR0.out (l1.length : Int) p480 q480
                     obtain rfl : ad472 = ad480 := (by injection e480)
                     have HR480_0 := Aside0.mk hi480_0
                     have HC480_0 := Aside0.mk hl480_0
                     clear hi480_0 hl480_0
                     (try simp only [Go.IntWalk.toNatUp] at hx480_0)
                     replace p480 := eq_true p480
                     replace q480 := eq_true q480
                     have p481 : 0 ≤ (x17_22 : Int) := of_decide_eq_true (by assumption)
                     have q481 : x17_22 < ((rd_L4 l0 (l1.length : Int)).length : Int) := of_decide_eq_true (by assumption)
                     obtain ⟨ad481, e481, hx481_0⟩ := Kd.at_int HR480_0.out x17_22 p481 q481
                     cases e481
                     replace p481 := eq_true p481
                     replace q481 := eq_true q481
                     have p482 : 0 ≤ ((l1.length : Int) : Int) := of_decide_eq_true (by assumption)
                     have q482 : (l1.length : Int) < (l0.length : Int) := of_decide_eq_true (by assumption)
                     obtain ⟨ad482, A482_0, c482_0, e482, hx482_0, hl482_0, hi482_0⟩ := at_L4 HR0.out (l1.length : Int) p482 q482
                     obtain rfl : ad472 = ad482 := (by injection e482)
                     have HR482_0 := Aside0.mk hi482_0
                     have HC482_0 := Aside0.mk hl482_0
                     clear hi482_0 hl482_0
                     (try simp only [Go.IntWalk.toNatUp] at hx482_0)
                     replace p482 := eq_true p482
                     replace q482 := eq_true q482
                     have ea_ := Option.some.inj (hx480_0.symm.trans hx482_0)
                     injection ea_ with ea_ en_ ec_
                     subst ea_
                     subst ec_
                     clear en_
                     have p483 : 0 ≤ (x17_22 : Int) := of_decide_eq_true (by assumption)
                     have q483 : x17_22 < ((rd_L4 l0 (l1.length : Int)).length : Int) := of_decide_eq_true (by assumption)
                     obtain ⟨ad483, e483, hx483_0⟩ := Kd.at_int HR482_0.out x17_22 p483 q483
                     cases e483
                     replace p483 := eq_true p483
                     replace q483 := eq_true q483
                     have p484 : 0 ≤ ((l1.length : Int) : Int) := of_decide_eq_true (by assumption)
                     have q484 : (l1.length : Int) < (l0.length : Int) := of_decide_eq_true (by assumption)
                     obtain ⟨ad484, A484_0, c484_0, e484, hx484_0, hl484_0, hi484_0⟩ := at_L4 HR0.out (l1.length : Int) p484 q484
                     obtain rfl : ad472 = ad484 := (by injection e484)
                     have HR484_0 := Aside0.mk hi484_0
                     have HC484_0 := Aside0.mk hl484_0
                     clear hi484_0 hl484_0
                     (try simp only [Go.IntWalk.toNatUp] at hx484_0)
                     replace p484 := eq_true p484
                     replace q484 := eq_true q484
                     have ea_ := Option.some.inj (hx480_0.symm.trans hx484_0)
                     injection ea_ with ea_ en_ ec_
                     subst ea_
                     subst ec_
                     clear en_
                     have p485 : 0 ≤ (x17_22 : Int) := of_decide_eq_true (by assumption)
                     have q485 : x17_22 < ((rd_L4 l0 (l1.length : Int)).length : Int) := of_decide_eq_true (by assumption)
                     obtain ⟨ad485, e485, hx485_0⟩ := Kd.at_int HR484_0.out x17_22 p485 q485
                     cases e485
                     replace p485 := eq_true p485
                     replace q485 := eq_true q485
                     go_wp2
                     go_roundg kj30
                     case measure => have := HJ2.out; have := HK2.out; have := HK3.out; have := HK4.out; have := HJ22.out; have := HJ30.out; omega
                     case rel => exact ⟨(x12_30), (wrap64 (x18_22 + (rd (rd_L4 l0 (l1.length : Int)) x17_22))), (x14_30), (true), (wrap64 (x16_4 + 1)), (by first | rfl | (simp; done) | (simp [*]; done)), (by first | rfl | (simp; done) | (simp [*]; done)), (by first | rfl | (simp; done) | (simp [*]; done)), (by first | rfl | (simp; done) | (simp [*]; done)), (by first | rfl | (simp; done) | (simp [*]; done)), H', ⟨by have := HJ2.out; have := HK2.out; have := HK3.out; have := HK4.out; have := HJ22.out; have := HJ30.out; omega⟩, by repeat (first | exact Drawn0.refl _ | apply Drawn0.step)⟩
                    ·rw [if_neg c41] at H
                     have c41b0 : decide ((wrap64 (x18_22 + (rd (rd_L4 l0 (l1.length : Int)) x17_22))) < x13_4) = false := decide_eq_false c41
                     clear c41
                     have H' := Aside0.mk H
                     clear H
                     have p480 : 0 ≤ ((l1.length : Int) : Int) := of_decide_eq_true (by assumption)
                     have q480 : (l1.length : Int) < (l0.length : Int) := of_decide_eq_true (by assumption)
                     obtain ⟨ad480, A480_0, c480_0, e480, hx480_0, hl480_0, hi480_0⟩ := at_L4 HR0.out (l1.length : Int) p480 q480
                     obtain rfl : ad472 = ad480 := (by injection e480)
                     have HR480_0 := Aside0.mk hi480_0
                     have HC480_0 := Aside0.mk hl480_0
                     clear hi480_0 hl480_0
                     (try simp only [Go.IntWalk.toNatUp] at hx480_0)
                     replace p480 := eq_true p480
                     replace q480 := eq_true q480
                     have p481 : 0 ≤ (x17_22 : Int) := of_decide_eq_true (by assumption)
                     have q481 : x17_22 < ((rd_L4 l0 (l1.length : Int)).length : Int) := of_decide_eq_true (by assumption)
                     obtain ⟨ad481, e481, hx481_0⟩ := Kd.at_int HR480_0.out x17_22 p481 q481
                     cases e481
                     replace p481 := eq_true p481
                     replace q481 := eq_true q481
                     have p482 : 0 ≤ ((l1.length : Int) : Int) := of_decide_eq_true (by assumption)
                     have q482 : (l1.length : Int) < (l0.length : Int) := of_decide_eq_true (by assumption)
                     obtain ⟨ad482, A482_0, c482_0, e482, hx482_0, hl482_0, hi482_0⟩ := at_L4 HR0.out (l1.length : Int) p482 q482
                     obtain rfl : ad472 = ad482 := (by injection e482)
                     have HR482_0 := Aside0.mk hi482_0
                     have HC482_0 := Aside0.mk hl482_0
                     clear hi482_0 hl482_0
                     (try simp only [Go.IntWalk.toNatUp] at hx482_0)
                     replace p482 := eq_true p482
                     replace q482 := eq_true q482
                     have ea_ := Option.some.inj (hx480_0.symm.trans hx482_0)
                     injection ea_ with ea_ en_ ec_
                     subst ea_
                     subst ec_
                     clear en_
                     have p483 : 0 ≤ (x17_22 : Int) := of_decide_eq_true (by assumption)
                     have q483 : x17_22 < ((rd_L4 l0 (l1.length : Int)).length : Int) := of_decide_eq_true (by assumption)
                     obtain ⟨ad483, e483, hx483_0⟩ := Kd.at_int HR482_0.out x17_22 p483 q483
                     cases e483
                     replace p483 := eq_true p483
                     replace q483 := eq_true q483
                     go_wp2
                     go_roundg kj30
                     case measure => have := HJ2.out; have := HK2.out; have := HK3.out; have := HK4.out; have := HJ22.out; have := HJ30.out; omega
                     case rel => exact ⟨(x12_30), (x13_4), (x14_30), (true), (wrap64 (x16_4 + 1)), (by first | rfl | (simp; done) | (simp [*]; done)), (by first | rfl | (simp; done) | (simp [*]; done)), (by first | rfl | (simp; done) | (simp [*]; done)), (by first | rfl | (simp; done) | (simp [*]; done)), (by first | rfl | (simp; done) | (simp [*]; done)), H', ⟨by have := HJ2.out; have := HK2.out; have := HK3.out; have := HK4.out; have := HJ22.out; have := HJ30.out; omega⟩, by repeat (first | exact Drawn0.refl _ | apply Drawn0.step)⟩
                   ·replace c40 := Bool.eq_false_iff.mpr c40
                    subst c40
                    have H1 : (r14_Range.l3 kj30 l0 l1 (wrap64 ((l0.length : Int) - 1)) (l1.length : Int) x12_30 (wrap64 (x18_22 + (rd (rd_L4 l0 (l1.length : Int)) x17_22))) x14_30 true (wrap64 (x16_4 + 1))) = some (r1, r2, r3) := by rw [if_neg (show ¬ (false = true) by decide)] at H; exact H
                    clear H
                    have H := H1
                    clear H1
                    have H' := Aside0.mk H
                    clear H
                    have p480 : 0 ≤ ((l1.length : Int) : Int) := of_decide_eq_true (by assumption)
                    have q480 : (l1.length : Int) < (l0.length : Int) := of_decide_eq_true (by assumption)
                    obtain ⟨ad480, A480_0, c480_0, e480, hx480_0, hl480_0, hi480_0⟩ := at_L4 HR0.out (l1.length : Int) p480 q480
                    obtain rfl : ad472 = ad480 := (by injection e480)
                    have HR480_0 := Aside0.mk hi480_0
                    have HC480_0 := Aside0.mk hl480_0
                    clear hi480_0 hl480_0
                    (try simp only [Go.IntWalk.toNatUp] at hx480_0)
                    replace p480 := eq_true p480
                    replace q480 := eq_true q480
                    have p481 : 0 ≤ (x17_22 : Int) := of_decide_eq_true (by assumption)
                    have q481 : x17_22 < ((rd_L4 l0 (l1.length : Int)).length : Int) := of_decide_eq_true (by assumption)
                    obtain ⟨ad481, e481, hx481_0⟩ := Kd.at_int HR480_0.out x17_22 p481 q481
                    cases e481
                    replace p481 := eq_true p481
                    replace q481 := eq_true q481
                    have p486 : 0 ≤ ((l1.length : Int) : Int) := of_decide_eq_true (by assumption)
                    have q486 : (l1.length : Int) < (l0.length : Int) := of_decide_eq_true (by assumption)
                    obtain ⟨ad486, A486_0, c486_0, e486, hx486_0, hl486_0, hi486_0⟩ := at_L4 HR0.out (l1.length : Int) p486 q486
                    obtain rfl : ad472 = ad486 := (by injection e486)
                    have HR486_0 := Aside0.mk hi486_0
                    have HC486_0 := Aside0.mk hl486_0
                    clear hi486_0 hl486_0
                    (try simp only [Go.IntWalk.toNatUp] at hx486_0)
                    replace p486 := eq_true p486
                    replace q486 := eq_true q486
                    have ea_ := Option.some.inj (hx480_0.symm.trans hx486_0)
                    injection ea_ with ea_ en_ ec_
                    subst ea_
                    subst ec_
                    clear en_
                    have p487 : 0 ≤ (x17_22 : Int) := of_decide_eq_true (by assumption)
                    have q487 : x17_22 < ((rd_L4 l0 (l1.length : Int)).length : Int) := of_decide_eq_true (by assumption)
                    obtain ⟨ad487, e487, hx487_0⟩ := Kd.at_int HR486_0.out x17_22 p487 q487
                    cases e487
                    replace p487 := eq_true p487
                    replace q487 := eq_true q487
                    go_wp2
                    go_roundg kj30
                    case measure => have := HJ2.out; have := HK2.out; have := HK3.out; have := HK4.out; have := HJ22.out; have := HJ30.out; omega
                    case rel => exact ⟨(x12_30), (wrap64 (x18_22 + (rd (rd_L4 l0 (l1.length : Int)) x17_22))), (x14_30), (true), (wrap64 (x16_4 + 1)), (by first | rfl | (simp; done) | (simp [*]; done)), (by first | rfl | (simp; done) | (simp [*]; done)), (by first | rfl | (simp; done) | (simp [*]; done)), (by first | rfl | (simp; done) | (simp [*]; done)), (by first | rfl | (simp; done) | (simp [*]; done)), H', ⟨by have := HJ2.out; have := HK2.out; have := HK3.out; have := HK4.out; have := HJ22.out; have := HJ30.out; omega⟩, by repeat (first | exact Drawn0.refl _ | apply Drawn0.step)⟩
                  ·rw [if_neg c39] at H
                   have c39b0 : decide ((rd (rd_L4 l0 (l1.length : Int)) x17_22) < 1099511627776) = false := decide_eq_false c39
                   clear c39
                   have H' := Aside0.mk H
                   clear H
                   have p480 : 0 ≤ ((l1.length : Int) : Int) := of_decide_eq_true (by assumption)
                   have q480 : (l1.length : Int) < (l0.length : Int) := of_decide_eq_true (by assumption)
                   obtain ⟨ad480, A480_0, c480_0, e480, hx480_0, hl480_0, hi480_0⟩ := at_L4 HR0.out (l1.length : Int) p480 q480
                   obtain rfl : ad472 = ad480 := (by injection e480)
                   have HR480_0 := Aside0.mk hi480_0
                   have HC480_0 := Aside0.mk hl480_0
                   clear hi480_0 hl480_0
                   (try simp only [Go.IntWalk.toNatUp] at hx480_0)
                   replace p480 := eq_true p480
                   replace q480 := eq_true q480
                   have p481 : 0 ≤ (x17_22 : Int) := of_decide_eq_true (by assumption)
                   have q481 : x17_22 < ((rd_L4 l0 (l1.length : Int)).length : Int) := of_decide_eq_true (by assumption)
                   obtain ⟨ad481, e481, hx481_0⟩ := Kd.at_int HR480_0.out x17_22 p481 q481
                   cases e481
                   replace p481 := eq_true p481
                   replace q481 := eq_true q481
                   go_wp2
                   go_roundg kj30
                   case measure => have := HJ2.out; have := HK2.out; have := HK3.out; have := HK4.out; have := HJ22.out; have := HJ30.out; omega
                   case rel => exact ⟨(x12_30), (x13_4), (x14_30), (x15_4), (wrap64 (x16_4 + 1)), (by first | rfl | (simp; done) | (simp [*]; done)), (by first | rfl | (simp; done) | (simp [*]; done)), (by first | rfl | (simp; done) | (simp [*]; done)), (by first | rfl | (simp; done) | (simp [*]; done)), (by first | rfl | (simp; done) | (simp [*]; done)), H', ⟨by have := HJ2.out; have := HK2.out; have := HK3.out; have := HK4.out; have := HJ22.out; have := HJ30.out; omega⟩, by repeat (first | exact Drawn0.refl _ | apply Drawn0.step)⟩
             ·rw [if_neg c22] at H
              have c22b0 : decide (x16_4 ≤ (l1.length : Int)) = false := decide_eq_false c22
              clear c22
              by_cases c42 : x12_4 > x13_4
              ·rw [if_pos c42] at H
               have c42b0 : decide (x13_4 < x12_4) = true := decide_eq_true c42
               clear c42
               simp only [Option.some.injEq, Prod.mk.injEq] at H
               obtain ⟨rfl, rfl, rfl⟩ := H
               go_wp2
               go_ret3
               exact ⟨by first | rfl | (simp; done) | (simp [*]; done), by repeat (first | exact Drawn0.refl _ | apply Drawn0.step)⟩
              ·rw [if_neg c42] at H
               have c42b0 : decide (x13_4 < x12_4) = false := decide_eq_false c42
               clear c42
               simp only [Option.some.injEq, Prod.mk.injEq] at H
               obtain ⟨rfl, rfl, rfl⟩ := H
               go_wp2
               go_ret3
               exact ⟨by first | rfl | (simp; done) | (simp [*]; done), by repeat (first | exact Drawn0.refl _ | apply Drawn0.step)⟩
end Go.Proofs.Ytcnkjcbjlopkmaa.Q
