-- Printed by wip/tools/myprint.py
import Derived.Test.YtcnkjcbjlopkmaaRan
import Derived.Test.YtcnkjcbjlopkmaaQ0
import Derived.Test.YtcnkjcbjlopkmaaQ5
namespace Go.Proofs.Ytcnkjcbjlopkmaa.Q
open Go.RowKit Go.Proofs.YtcnkjcbjlopkmaaW.PrintWords Go.Proofs.YtcnkjcbjlopkmaaW.PrintLast Go.Proofs.YtcnkjcbjlopkmaaW.PrintMore
attribute [local go_sem] max2_int min2_int max_two min_two max_three min_three max_four min_four
set_option linter.unusedVariables false
set_option linter.unusedSimpArgs false
def r01_SameInts.l0 : Nat → List Int → List Int → Int → Option (Bool)
 | 0, _, _, _ => none
 | k + 1, x0, x1, x5 => if x5 < (x0.length : Int) then (if 0 ≤ x5 then (if x5 < (x1.length : Int) then (if (rd x0 x5) = (rd x1 x5) then (r01_SameInts.l0 k x0 x1 (wrap64 (x5 + 1))) else (some false)) else (none)) else (none)) else (some true)
def r01_SameInts.f (k : Nat) (l0 : List Int) (l1 : List Int) : Option (Bool) := if (l0.length : Int) = (l1.length : Int) then (r01_SameInts.l0 k l0 l1 0) else (some false)
theorem r01_SameInts.mono_l : ∀ k, (∀ y0 y1 y2, LeO (r01_SameInts.l0 k y0 y1 y2) (r01_SameInts.l0 (k + 1) y0 y1 y2))
 | 0 => fun _ _ _ r h => by simp [r01_SameInts.l0] at h
 | k + 1 => by
  have ih0 := r01_SameInts.mono_l k
  ·intro y0 y1 y2
   unfold r01_SameInts.l0
   repeat' first
   | (with_reducible exact ih0 _ _ _)
   | (with_reducible exact LeO.refl _)
   | (with_reducible exact LeO.none _)
   | (with_reducible refine LeO.ite ?_ ?_)
   | (with_reducible refine LeO.bind ?_ (fun _ => ?_))
   | exact LeO.none _
   | refine LeO.ite ?_ ?_
   | refine LeO.bind ?_ (fun _ => ?_)
theorem r01_SameInts.mono : ∀ a0 a1 k, LeO (r01_SameInts.f k a0 a1) (r01_SameInts.f (k + 1) a0 a1) := by
 intro a0 a1 k
 have ih0 := r01_SameInts.mono_l k
 unfold r01_SameInts.f
 repeat' first
   | (with_reducible exact ih0 _ _ _)
   | (with_reducible exact LeO.refl _)
   | (with_reducible exact LeO.none _)
   | (with_reducible refine LeO.ite ?_ ?_)
   | (with_reducible refine LeO.bind ?_ (fun _ => ?_))
   | exact LeO.none _
   | refine LeO.ite ?_ ?_
   | refine LeO.bind ?_ (fun _ => ?_)
set_option maxHeartbeats 8000000 in
set_option maxRecDepth 100000 in
theorem r01_SameInts.calls (k : Nat) (A0 : Option Addr) (c0 : Nat) (l0 : List Int) (A1 : Option Addr) (c1 : Nat) (l1 : List Int) (r : Bool) (w : World) (hr0 : Kd.C (Kd.int .i64) w A0 l0.length l0) (hc0 : l0.length ≤ c0) (hr1 : Kd.C (Kd.int .i64) w A1 l1.length l1) (hc1 : l1.length ≤ c1) (h : r01_SameInts.f k l0 l1 = some r) :
  Calls Try.prog 18 #[.slice A0 l0.length c0, .slice A1 l1.length c1] w fun e w' => e = .returned (.bool r) ∧ Drawn0 w w' := by
 have HR0 := Aside0.mk hr0
 have HC0 := Aside0.mk hc0
 clear hr0 hc0
 have HR1 := Aside0.mk hr1
 have HC1 := Aside0.mk hc1
 clear hr1 hc1
 have H : (if (l0.length : Int) = (l1.length : Int) then (r01_SameInts.l0 k l0 l1 0) else (some false)) = some r := h
 clear h
 by_cases c3 : (l0.length : Int) = (l1.length : Int)
 ·rw [if_pos c3] at H
  have c3b0 : ((l0.length : Int) == (l1.length : Int)) = true := beq_iff_eq.mpr c3
  have c3b1 : ((l0.length : Int) != (l1.length : Int)) = false := bne_eq_false_iff_eq.mpr c3
  have c3b2 : (l0.length == l1.length) = true := by first | simpa using c3 | (simp at c3 ⊢; omega)
  clear c3
  have H' := Aside0.mk H
  clear H
  go_enter Try.func18, Try.ntmps18
  go_wp2
  repeat (go_quiet (fail); try go_wp2)
  go_loopg [5] k (fun kq v5 w' => ∃ (x5_1 : Int), v5 = .int .i64 x5_1 ∧ Aside0 (r01_SameInts.l0 kq l0 l1 x5_1 = some r) ∧ Aside0 (kq ≤ k) ∧ Drawn0 w w')
  case atStart => exact ⟨(0), (by first | rfl | (simp; done) | (simp [*]; done)), H', ⟨Nat.le_refl _⟩, by repeat (first | exact Drawn0.refl _ | apply Drawn0.step)⟩
  case round =>
   clear H'
   try clear c1
   try clear p2
   try clear c3
   try clear c3b0
   try clear c3b1
   try clear c3b2
   obtain ⟨x5_1, rfl, HA, HK1, ⟨m1, rfl⟩⟩ := hrel
   cases gk with
   | zero => exact absurd HA.out (by simp [r01_SameInts.l0])
   | succ k1 =>
    have H := HA.out
    clear HA
    simp only [r01_SameInts.l0] at H
    by_cases c4 : x5_1 < (l0.length : Int)
    ·rw [if_pos c4] at H
     have c4b0 : decide (x5_1 < (l0.length : Int)) = true := decide_eq_true c4
     clear c4
     by_cases c5 : 0 ≤ x5_1
     case neg => rw [if_neg c5] at H; exact absurd H (by simp)
     rw [if_pos c5] at H
     have c5b0 : decide (0 ≤ x5_1) = true := decide_eq_true c5
     clear c5
     by_cases c6 : x5_1 < (l1.length : Int)
     case neg => rw [if_neg c6] at H; exact absurd H (by simp)
     rw [if_pos c6] at H
     have c6b0 : decide (x5_1 < (l1.length : Int)) = true := decide_eq_true c6
     clear c6
     by_cases c7 : (rd l0 x5_1) = (rd l1 x5_1)
     ·rw [if_pos c7] at H
      have c7b0 : ((rd l0 x5_1) == (rd l1 x5_1)) = true := beq_iff_eq.mpr c7
      have c7b1 : ((rd l0 x5_1) != (rd l1 x5_1)) = false := bne_eq_false_iff_eq.mpr c7
      clear c7
      have H' := Aside0.mk H
      clear H
      have p334 : 0 ≤ (x5_1 : Int) := of_decide_eq_true (by assumption)
      have q334 : x5_1 < (l0.length : Int) := of_decide_eq_true (by assumption)
      obtain ⟨ad334, e334, hx334_0⟩ := Kd.at_int HR0.out x5_1 p334 q334
      cases e334
      replace p334 := eq_true p334
      replace q334 := eq_true q334
      have p335 : 0 ≤ (x5_1 : Int) := of_decide_eq_true (by assumption)
      have q335 : x5_1 < (l1.length : Int) := of_decide_eq_true (by assumption)
      obtain ⟨ad335, e335, hx335_0⟩ := Kd.at_int HR1.out x5_1 p335 q335
      cases e335
      replace p335 := eq_true p335
      replace q335 := eq_true q335
      go_wp2
      repeat (go_quiet (fail); try go_wp2)
      go_roundg k1
      case measure => have := HK1.out; omega
      case rel => exact ⟨(wrap64 (x5_1 + 1)), (by first | rfl | (simp; done) | (simp [*]; done)), H', ⟨by have := HK1.out; omega⟩, by repeat (first | exact Drawn0.refl _ | apply Drawn0.step)⟩
     ·rw [if_neg c7] at H
      have c7b0 : ((rd l0 x5_1) == (rd l1 x5_1)) = false := beq_eq_false_iff_ne.mpr c7
      have c7b1 : ((rd l0 x5_1) != (rd l1 x5_1)) = true := bne_iff_ne.mpr c7
      obtain rfl := Option.some.inj H
      have p334 : 0 ≤ (x5_1 : Int) := of_decide_eq_true (by assumption)
      have q334 : x5_1 < (l0.length : Int) := of_decide_eq_true (by assumption)
      obtain ⟨ad334, e334, hx334_0⟩ := Kd.at_int HR0.out x5_1 p334 q334
      cases e334
      replace p334 := eq_true p334
      replace q334 := eq_true q334
      have p335 : 0 ≤ (x5_1 : Int) := of_decide_eq_true (by assumption)
      have q335 : x5_1 < (l1.length : Int) := of_decide_eq_true (by assumption)
      obtain ⟨ad335, e335, hx335_0⟩ := Kd.at_int HR1.out x5_1 p335 q335
      cases e335
      replace p335 := eq_true p335
      replace q335 := eq_true q335
      go_wp2
      repeat (go_quiet (fail); try go_wp2)
      go_ret
      exact ⟨by first | rfl | (simp; done) | (simp [*]; done), by repeat (first | exact Drawn0.refl _ | apply Drawn0.step)⟩
    ·rw [if_neg c4] at H
     have c4b0 : decide (x5_1 < (l0.length : Int)) = false := decide_eq_false c4
     clear c4
     obtain rfl := Option.some.inj H
     go_wp2
     repeat (go_quiet (fail); try go_wp2)
     go_ret
     exact ⟨by first | rfl | (simp; done) | (simp [*]; done), by repeat (first | exact Drawn0.refl _ | apply Drawn0.step)⟩
 ·rw [if_neg c3] at H
  have c3b0 : ((l0.length : Int) == (l1.length : Int)) = false := beq_eq_false_iff_ne.mpr c3
  have c3b1 : ((l0.length : Int) != (l1.length : Int)) = true := bne_iff_ne.mpr c3
  have c3b2 : (l0.length == l1.length) = false := by first | simpa using c3 | (simp at c3 ⊢; omega)
  obtain rfl := Option.some.inj H
  go_enter Try.func18, Try.ntmps18
  go_wp2
  repeat (go_quiet (fail); try go_wp2)
  go_ret
  exact ⟨by first | rfl | (simp; done) | (simp [*]; done), by repeat (first | exact Drawn0.refl _ | apply Drawn0.step)⟩
def r14_SameTables.l0 : Nat → List (List Int) → List (List Int) → Int → Option (Bool)
 | 0, _, _, _ => none
 | k + 1, x0, x1, x5 => if x5 < (x0.length : Int) then (if 0 ≤ x5 then (if x5 < (x1.length : Int) then ((r01_SameInts.f k (rd_L4 x0 x5) (rd_L4 x1 x5)).bind fun t338 => (if t338 = true then (r14_SameTables.l0 k x0 x1 (wrap64 (x5 + 1))) else (some false))) else (none)) else (none)) else (some true)
def r14_SameTables.f (k : Nat) (l0 : List (List Int)) (l1 : List (List Int)) : Option (Bool) := if (l0.length : Int) = (l1.length : Int) then (r14_SameTables.l0 k l0 l1 0) else (some false)
theorem r14_SameTables.mono_l : ∀ k, (∀ y0 y1 y2, LeO (r14_SameTables.l0 k y0 y1 y2) (r14_SameTables.l0 (k + 1) y0 y1 y2))
 | 0 => fun _ _ _ r h => by simp [r14_SameTables.l0] at h
 | k + 1 => by
  have ih0 := r14_SameTables.mono_l k
  ·intro y0 y1 y2
   unfold r14_SameTables.l0
   repeat' first
   | (with_reducible exact ih0 _ _ _)
   | (with_reducible exact r01_SameInts.mono _ _ _)
   | (with_reducible exact LeO.refl _)
   | (with_reducible exact LeO.none _)
   | (with_reducible refine LeO.ite ?_ ?_)
   | (with_reducible refine LeO.bind ?_ (fun _ => ?_))
   | exact LeO.none _
   | refine LeO.ite ?_ ?_
   | refine LeO.bind ?_ (fun _ => ?_)
theorem r14_SameTables.mono : ∀ a0 a1 k, LeO (r14_SameTables.f k a0 a1) (r14_SameTables.f (k + 1) a0 a1) := by
 intro a0 a1 k
 have ih0 := r14_SameTables.mono_l k
 unfold r14_SameTables.f
 repeat' first
   | (with_reducible exact ih0 _ _ _)
   | (with_reducible exact r01_SameInts.mono _ _ _)
   | (with_reducible exact LeO.refl _)
   | (with_reducible exact LeO.none _)
   | (with_reducible refine LeO.ite ?_ ?_)
   | (with_reducible refine LeO.bind ?_ (fun _ => ?_))
   | exact LeO.none _
   | refine LeO.ite ?_ ?_
   | refine LeO.bind ?_ (fun _ => ?_)
set_option maxHeartbeats 8000000 in
set_option maxRecDepth 100000 in
theorem r14_SameTables.calls (k : Nat) (A0 : Option Addr) (c0 : Nat) (l0 : List (List Int)) (A1 : Option Addr) (c1 : Nat) (l1 : List (List Int)) (r : Bool) (w : World) (hr0 : Kd.C (Kd.slice 3 (Kd.int .i64)) w A0 l0.length l0) (hc0 : l0.length ≤ c0) (hr1 : Kd.C (Kd.slice 3 (Kd.int .i64)) w A1 l1.length l1) (hc1 : l1.length ≤ c1) (h : r14_SameTables.f k l0 l1 = some r) :
  Calls Try.prog 17 #[.slice A0 l0.length c0, .slice A1 l1.length c1] w fun e w' => e = .returned (.bool r) ∧ Drawn0 w w' := by
 have HR0 := Aside0.mk hr0
 have HC0 := Aside0.mk hc0
 clear hr0 hc0
 have HR1 := Aside0.mk hr1
 have HC1 := Aside0.mk hc1
 clear hr1 hc1
 have H : (if (l0.length : Int) = (l1.length : Int) then (r14_SameTables.l0 k l0 l1 0) else (some false)) = some r := h
 clear h
 by_cases c3 : (l0.length : Int) = (l1.length : Int)
 ·rw [if_pos c3] at H
  have c3b0 : ((l0.length : Int) == (l1.length : Int)) = true := beq_iff_eq.mpr c3
  have c3b1 : ((l0.length : Int) != (l1.length : Int)) = false := bne_eq_false_iff_eq.mpr c3
  have c3b2 : (l0.length == l1.length) = true := by first | simpa using c3 | (simp at c3 ⊢; omega)
  clear c3
  have H' := Aside0.mk H
  clear H
  go_enter Try.func17, Try.ntmps17
  go_wp2
  repeat (go_quiet (fail); try go_wp2)
  go_loopg [5] k (fun kq v5 w' => ∃ (x5_1 : Int), v5 = .int .i64 x5_1 ∧ Aside0 (r14_SameTables.l0 kq l0 l1 x5_1 = some r) ∧ Aside0 (kq ≤ k) ∧ Drawn0 w w')
  case atStart => exact ⟨(0), (by first | rfl | (simp; done) | (simp [*]; done)), H', ⟨Nat.le_refl _⟩, by repeat (first | exact Drawn0.refl _ | apply Drawn0.step)⟩
  case round =>
   clear H'
   try clear c1
   try clear p2
   try clear c3
   try clear c3b0
   try clear c3b1
   try clear c3b2
   obtain ⟨x5_1, rfl, HA, HK1, ⟨m1, rfl⟩⟩ := hrel
   cases gk with
   | zero => exact absurd HA.out (by simp [r14_SameTables.l0])
   | succ k1 =>
    have H := HA.out
    clear HA
    simp only [r14_SameTables.l0] at H
    by_cases c4 : x5_1 < (l0.length : Int)
    ·rw [if_pos c4] at H
     have c4b0 : decide (x5_1 < (l0.length : Int)) = true := decide_eq_true c4
     clear c4
     by_cases c5 : 0 ≤ x5_1
     case neg => rw [if_neg c5] at H; exact absurd H (by simp)
     rw [if_pos c5] at H
     have c5b0 : decide (0 ≤ x5_1) = true := decide_eq_true c5
     clear c5
     by_cases c6 : x5_1 < (l1.length : Int)
     case neg => rw [if_neg c6] at H; exact absurd H (by simp)
     rw [if_pos c6] at H
     have c6b0 : decide (x5_1 < (l1.length : Int)) = true := decide_eq_true c6
     clear c6
     replace H := Option.bind_eq_some_iff.mp H
     obtain ⟨t338, A70, H⟩ := H
     replace H : (if t338 = true then (r14_SameTables.l0 k1 l0 l1 (wrap64 (x5_1 + 1))) else (some false)) = some r := H
     have A7 := Aside0.mk A70
     clear A70
     by_cases c8 : t338 = true
     ·subst c8
      have H1 : (r14_SameTables.l0 k1 l0 l1 (wrap64 (x5_1 + 1))) = some r := by rw [if_pos rfl] at H; exact H
      clear H
      have H := H1
      clear H1
      have H' := Aside0.mk H
      clear H
      have p336 : 0 ≤ (x5_1 : Int) := of_decide_eq_true (by assumption)
      have q336 : x5_1 < (l0.length : Int) := of_decide_eq_true (by assumption)
      obtain ⟨ad336, A336_0, c336_0, e336, hx336_0, hl336_0, hi336_0⟩ := at_L4 HR0.out x5_1 p336 q336
      cases e336
      have HR336_0 := Aside0.mk hi336_0
      have HC336_0 := Aside0.mk hl336_0
      clear hi336_0 hl336_0
      replace p336 := eq_true p336
      replace q336 := eq_true q336
      have p337 : 0 ≤ (x5_1 : Int) := of_decide_eq_true (by assumption)
      have q337 : x5_1 < (l1.length : Int) := of_decide_eq_true (by assumption)
      obtain ⟨ad337, A337_0, c337_0, e337, hx337_0, hl337_0, hi337_0⟩ := at_L4 HR1.out x5_1 p337 q337
      cases e337
      have HR337_0 := Aside0.mk hi337_0
      have HC337_0 := Aside0.mk hl337_0
      clear hi337_0 hl337_0
      replace p337 := eq_true p337
      replace q337 := eq_true q337
      go_wp2_with (first | (go_at_call 18; (with_reducible refine (r01_SameInts.calls k1 _ _ (rd_L4 l0 x5_1) _ _ (rd_L4 l1 x5_1) true _ ?side1 ?side2 ?side3 ?side4 A7.out).mono ?_); (case side1 => exact gC (HR336_0.out)); (case side2 => exact HC336_0.out); (case side3 => exact gC (HR337_0.out)); (case side4 => exact HC337_0.out); rintro e w' ⟨rfl, ⟨nd, rfl⟩⟩; (try first | exact ⟨rfl, _, World.drewN_drewN _ _ _⟩ | exact ⟨rfl, _, Eq.trans (World.drewN_drewN _ _ _) (congrArg (World.drewN _) (Nat.add_assoc _ _ _))⟩)))
      repeat (go_quiet (first | (go_at_call 18; (with_reducible refine (r01_SameInts.calls k1 _ _ (rd_L4 l0 x5_1) _ _ (rd_L4 l1 x5_1) true _ ?side1 ?side2 ?side3 ?side4 A7.out).mono ?_); (case side1 => exact gC (HR336_0.out)); (case side2 => exact HC336_0.out); (case side3 => exact gC (HR337_0.out)); (case side4 => exact HC337_0.out); rintro e w' ⟨rfl, ⟨nd, rfl⟩⟩; (try first | exact ⟨rfl, _, World.drewN_drewN _ _ _⟩ | exact ⟨rfl, _, Eq.trans (World.drewN_drewN _ _ _) (congrArg (World.drewN _) (Nat.add_assoc _ _ _))⟩))); try go_wp2_with (first | (go_at_call 18; (with_reducible refine (r01_SameInts.calls k1 _ _ (rd_L4 l0 x5_1) _ _ (rd_L4 l1 x5_1) true _ ?side1 ?side2 ?side3 ?side4 A7.out).mono ?_); (case side1 => exact gC (HR336_0.out)); (case side2 => exact HC336_0.out); (case side3 => exact gC (HR337_0.out)); (case side4 => exact HC337_0.out); rintro e w' ⟨rfl, ⟨nd, rfl⟩⟩; (try first | exact ⟨rfl, _, World.drewN_drewN _ _ _⟩ | exact ⟨rfl, _, Eq.trans (World.drewN_drewN _ _ _) (congrArg (World.drewN _) (Nat.add_assoc _ _ _))⟩))))
      go_roundg k1
      case measure => have := HK1.out; omega
      case rel => exact ⟨(wrap64 (x5_1 + 1)), (by first | rfl | (simp; done) | (simp [*]; done)), H', ⟨by have := HK1.out; omega⟩, by repeat (first | exact Drawn0.refl _ | apply Drawn0.step)⟩
     ·replace c8 := Bool.eq_false_iff.mpr c8
      subst c8
      have H1 : (some false) = some r := by rw [if_neg (show ¬ (false = true) by decide)] at H; exact H
      clear H
      have H := H1
      clear H1
      obtain rfl := Option.some.inj H
      have p336 : 0 ≤ (x5_1 : Int) := of_decide_eq_true (by assumption)
      have q336 : x5_1 < (l0.length : Int) := of_decide_eq_true (by assumption)
      obtain ⟨ad336, A336_0, c336_0, e336, hx336_0, hl336_0, hi336_0⟩ := at_L4 HR0.out x5_1 p336 q336
      cases e336
      have HR336_0 := Aside0.mk hi336_0
      have HC336_0 := Aside0.mk hl336_0
      clear hi336_0 hl336_0
      replace p336 := eq_true p336
      replace q336 := eq_true q336
      have p337 : 0 ≤ (x5_1 : Int) := of_decide_eq_true (by assumption)
      have q337 : x5_1 < (l1.length : Int) := of_decide_eq_true (by assumption)
      obtain ⟨ad337, A337_0, c337_0, e337, hx337_0, hl337_0, hi337_0⟩ := at_L4 HR1.out x5_1 p337 q337
      cases e337
      have HR337_0 := Aside0.mk hi337_0
      have HC337_0 := Aside0.mk hl337_0
      clear hi337_0 hl337_0
      replace p337 := eq_true p337
      replace q337 := eq_true q337
      go_wp2_with (first | (go_at_call 18; (with_reducible refine (r01_SameInts.calls k1 _ _ (rd_L4 l0 x5_1) _ _ (rd_L4 l1 x5_1) false _ ?side1 ?side2 ?side3 ?side4 A7.out).mono ?_); (case side1 => exact gC (HR336_0.out)); (case side2 => exact HC336_0.out); (case side3 => exact gC (HR337_0.out)); (case side4 => exact HC337_0.out); rintro e w' ⟨rfl, ⟨nd, rfl⟩⟩; (try first | exact ⟨rfl, _, World.drewN_drewN _ _ _⟩ | exact ⟨rfl, _, Eq.trans (World.drewN_drewN _ _ _) (congrArg (World.drewN _) (Nat.add_assoc _ _ _))⟩)))
      repeat (go_quiet (first | (go_at_call 18; (with_reducible refine (r01_SameInts.calls k1 _ _ (rd_L4 l0 x5_1) _ _ (rd_L4 l1 x5_1) false _ ?side1 ?side2 ?side3 ?side4 A7.out).mono ?_); (case side1 => exact gC (HR336_0.out)); (case side2 => exact HC336_0.out); (case side3 => exact gC (HR337_0.out)); (case side4 => exact HC337_0.out); rintro e w' ⟨rfl, ⟨nd, rfl⟩⟩; (try first | exact ⟨rfl, _, World.drewN_drewN _ _ _⟩ | exact ⟨rfl, _, Eq.trans (World.drewN_drewN _ _ _) (congrArg (World.drewN _) (Nat.add_assoc _ _ _))⟩))); try go_wp2_with (first | (go_at_call 18; (with_reducible refine (r01_SameInts.calls k1 _ _ (rd_L4 l0 x5_1) _ _ (rd_L4 l1 x5_1) false _ ?side1 ?side2 ?side3 ?side4 A7.out).mono ?_); (case side1 => exact gC (HR336_0.out)); (case side2 => exact HC336_0.out); (case side3 => exact gC (HR337_0.out)); (case side4 => exact HC337_0.out); rintro e w' ⟨rfl, ⟨nd, rfl⟩⟩; (try first | exact ⟨rfl, _, World.drewN_drewN _ _ _⟩ | exact ⟨rfl, _, Eq.trans (World.drewN_drewN _ _ _) (congrArg (World.drewN _) (Nat.add_assoc _ _ _))⟩))))
      go_ret
      exact ⟨by first | rfl | (simp; done) | (simp [*]; done), by repeat (first | exact Drawn0.refl _ | apply Drawn0.step)⟩
    ·rw [if_neg c4] at H
     have c4b0 : decide (x5_1 < (l0.length : Int)) = false := decide_eq_false c4
     clear c4
     obtain rfl := Option.some.inj H
     go_wp2
     repeat (go_quiet (fail); try go_wp2)
     go_ret
     exact ⟨by first | rfl | (simp; done) | (simp [*]; done), by repeat (first | exact Drawn0.refl _ | apply Drawn0.step)⟩
 ·rw [if_neg c3] at H
  have c3b0 : ((l0.length : Int) == (l1.length : Int)) = false := beq_eq_false_iff_ne.mpr c3
  have c3b1 : ((l0.length : Int) != (l1.length : Int)) = true := bne_iff_ne.mpr c3
  have c3b2 : (l0.length == l1.length) = false := by first | simpa using c3 | (simp at c3 ⊢; omega)
  obtain rfl := Option.some.inj H
  go_enter Try.func17, Try.ntmps17
  go_wp2
  repeat (go_quiet (fail); try go_wp2)
  go_ret
  exact ⟨by first | rfl | (simp; done) | (simp [*]; done), by repeat (first | exact Drawn0.refl _ | apply Drawn0.step)⟩
-- NOT PRINTED: function 48 (slices_IndexFunc_int_int_48)
-- NOT PRINTED: function 36 (slices_ContainsFunc_int_int_36)
-- NOT PRINTED: function 49 (slices_IndexFunc_int_int_49)
-- NOT PRINTED: function 37 (slices_ContainsFunc_int_int_37)
-- NOT PRINTED: function 39 (slices_Clone_int_int)
-- NOT PRINTED: function 40 (slices_Max_int_int)
-- NOT PRINTED: function 41 (slices_Min_int_int)
mutual
def bounds_Fill.l0 : Nat → List Int → List (List Int) → List Int → Int → Int → Option (List Int × Int)
 | 0, _, _, _, _, _ => none
 | k + 1, x2, x8, x10, x26, x27 => if x27 < x26 then ((bounds_Range.f x8 x10).bind fun bt343 => (if bt343.2.2 = 0 then (if bt343.1 = (-1099511627776) then (bounds_Fill.j1 k x2 x8 x10 x27 bt343.1 bt343.2.1 x26 x27 true) else (bounds_Fill.j1 k x2 x8 x10 x27 bt343.1 bt343.2.1 x26 x27 (bt343.2.1 == 1099511627776))) else (bounds_Fill.j1 k x2 x8 x10 x27 bt343.1 bt343.2.1 x26 x27 true))) else (some (x10, 0))
def bounds_Fill.j1 : Nat → List Int → List (List Int) → List Int → Int → Int → Int → Int → Int → Bool → Option (List Int × Int)
 | 0, _, _, _, _, _, _, _, _, _ => none
 | k + 1, x2, x8, x10, x11, x12, x13, x26, x27, x46 => if x46 = true then (some (([] : List Int), 5)) else (if x11 < (x2.length : Int) then (if 0 ≤ x11 then (if (wrap64 ((wrap64 (x13 - x12)) + 1)) = 0 then (none) else (if x10.length < 17592186044416 then (bounds_Fill.l0 k x2 x8 (x10 ++ [wrap64 (x12 + (Int.tmod (wrap64 ((Int.tmod (rd x2 x11) (wrap64 ((wrap64 (x13 - x12)) + 1))) + (wrap64 ((wrap64 (x13 - x12)) + 1)))) (wrap64 ((wrap64 (x13 - x12)) + 1))))]) x26 (wrap64 (x27 + 1))) else (none))) else (none)) else (if (wrap64 ((wrap64 (x13 - x12)) + 1)) = 0 then (none) else (if x10.length < 17592186044416 then (bounds_Fill.l0 k x2 x8 (x10 ++ [wrap64 (x12 + (Int.tmod (wrap64 (((0 : Int) % (wrap64 ((wrap64 (x13 - x12)) + 1))) + (wrap64 ((wrap64 (x13 - x12)) + 1)))) (wrap64 ((wrap64 (x13 - x12)) + 1))))]) x26 (wrap64 (x27 + 1))) else (none))))
end
def bounds_Fill.f (k : Nat) (a0 : Int) (l1 : List (S55)) (l2 : List Int) : Option (List Int × Int) := (bounds_Close.f k a0 l1).bind fun bt339 => (if bt339.2 = 0 then (bounds_Fill.l0 k l2 bt339.1 ([] : List Int) a0 0) else (some (([] : List Int), bt339.2)))
theorem bounds_Fill.mono_l : ∀ k, (∀ y0 y1 y2 y3 y4, LeO (bounds_Fill.l0 k y0 y1 y2 y3 y4) (bounds_Fill.l0 (k + 1) y0 y1 y2 y3 y4)) ∧ (∀ y0 y1 y2 y3 y4 y5 y6 y7 y8, LeO (bounds_Fill.j1 k y0 y1 y2 y3 y4 y5 y6 y7 y8) (bounds_Fill.j1 (k + 1) y0 y1 y2 y3 y4 y5 y6 y7 y8))
 | 0 => ⟨fun _ _ _ _ _ r h => by simp [bounds_Fill.l0] at h, fun _ _ _ _ _ _ _ _ _ r h => by simp [bounds_Fill.j1] at h⟩
 | k + 1 => by
  obtain ⟨ih0, ih1⟩ := bounds_Fill.mono_l k
  refine ⟨?_, ?_⟩
  ·intro y0 y1 y2 y3 y4
   unfold bounds_Fill.l0
   repeat' first
   | (with_reducible exact ih0 _ _ _ _ _)
   | (with_reducible exact ih1 _ _ _ _ _ _ _ _ _)
   | (with_reducible exact bounds_Close.mono _ _ _)
   | (with_reducible exact LeO.refl _)
   | (with_reducible exact LeO.none _)
   | (with_reducible refine LeO.ite ?_ ?_)
   | (with_reducible refine LeO.bind ?_ (fun _ => ?_))
   | exact LeO.none _
   | refine LeO.ite ?_ ?_
   | refine LeO.bind ?_ (fun _ => ?_)
  ·intro y0 y1 y2 y3 y4 y5 y6 y7 y8
   unfold bounds_Fill.j1
   repeat' first
   | (with_reducible exact ih0 _ _ _ _ _)
   | (with_reducible exact ih1 _ _ _ _ _ _ _ _ _)
   | (with_reducible exact bounds_Close.mono _ _ _)
   | (with_reducible exact LeO.refl _)
   | (with_reducible exact LeO.none _)
   | (with_reducible refine LeO.ite ?_ ?_)
   | (with_reducible refine LeO.bind ?_ (fun _ => ?_))
   | exact LeO.none _
   | refine LeO.ite ?_ ?_
   | refine LeO.bind ?_ (fun _ => ?_)
theorem bounds_Fill.mono : ∀ a0 a1 a2 k, LeO (bounds_Fill.f k a0 a1 a2) (bounds_Fill.f (k + 1) a0 a1 a2) := by
 intro a0 a1 a2 k
 obtain ⟨ih0, ih1⟩ := bounds_Fill.mono_l k
 unfold bounds_Fill.f
 repeat' first
   | (with_reducible exact ih0 _ _ _ _ _)
   | (with_reducible exact ih1 _ _ _ _ _ _ _ _ _)
   | (with_reducible exact bounds_Close.mono _ _ _)
   | (with_reducible exact LeO.refl _)
   | (with_reducible exact LeO.none _)
   | (with_reducible refine LeO.ite ?_ ?_)
   | (with_reducible refine LeO.bind ?_ (fun _ => ?_))
   | exact LeO.none _
   | refine LeO.ite ?_ ?_
   | refine LeO.bind ?_ (fun _ => ?_)
set_option maxHeartbeats 8000000 in
set_option maxRecDepth 100000 in
theorem bounds_Fill.calls (k : Nat) (a0 : Int) (A1 : Option Addr) (c1 : Nat) (l1 : List (S55)) (A2 : Option Addr) (c2 : Nat) (l2 : List Int) (r1 : List Int) (r2 : Int) (w : World) (hr1 : Kd.C k55 w A1 l1.length l1) (hc1 : l1.length ≤ c1) (hr2 : Kd.C (Kd.int .i64) w A2 l2.length l2) (hc2 : l2.length ≤ c2) (h : bounds_Fill.f k a0 l1 l2 = some (r1, r2)) :
  Calls Try.prog 23 #[.int .i64 a0, .slice A1 l1.length c1, .slice A2 l2.length c2] w fun e w' => ∃ v0_ : Value, e = .returned (.tuple #[v0_, .int .i64 r2]) ∧ Kd.R (Kd.int .i64) 3 w' w.heap.size (fun _ => True) v0_ r1 ∧ Below w.heap.size w w' := by
 have HR1 := Aside0.mk hr1
 have HC1 := Aside0.mk hc1
 clear hr1 hc1
 have HR2 := Aside0.mk hr2
 have HC2 := Aside0.mk hc2
 clear hr2 hc2
 have HB := Aside0.mk (Below.refl w.heap.size w)
 have H : ((bounds_Close.f k a0 l1).bind fun bt339 => (if bt339.2 = 0 then (bounds_Fill.l0 k l2 bt339.1 ([] : List Int) a0 0) else (some (([] : List Int), bt339.2)))) = some (r1, r2) := h
 clear h
 replace H := Option.bind_eq_some_iff.mp H
 obtain ⟨⟨t339, t340⟩, A40, H⟩ := H
 replace H : (if t340 = 0 then (bounds_Fill.l0 k l2 t339 ([] : List Int) a0 0) else (some (([] : List Int), t340))) = some (r1, r2) := H
 have A4 := Aside0.mk A40
 clear A40
 by_cases c5 : t340 = 0
 ·rw [if_pos c5] at H
  have c5b0 : (t340 == 0) = true := beq_iff_eq.mpr c5
  have c5b1 : (t340 != 0) = false := bne_eq_false_iff_eq.mpr c5
  clear c5
  have H' := Aside0.mk H
  clear H
  go_enter Try.func23, Try.ntmps23
  go_wp2_with (first | ((with_reducible refine gate_callee (f := 12) rfl ?_); refine goesL_ (some 20) rfl rfl Try.func12 (by kernel_rfl) rfl #[.int .i64 a0, .slice A1 l1.length c1] rfl (by (try simp only [List.map_toArray, List.map_cons, List.map_nil]); first | done | rfl | (simp only [List.length_drop, List.length_take]; rfl)) ?_; (with_reducible refine (bounds_Close.calls k a0 _ _ l1 t339 t340 _ ?side1 ?side2 A4.out).mono ?_); (case side1 => exact gC (HR1.out)); (case side2 => exact HC1.out); rintro e w6 ⟨v341, rfl, ho0, hb⟩; refine ⟨_, rfl, ?_⟩; have n0_ := Aside0.mk (Kd.S_lower ho0 (below_size (bl HB.out))); have n1_ := Aside0.mk (below_step (bl HB.out) hb); clear HB; have HO342 := n0_; have HB := n1_; clear n0_ n1_; (try clear hb); (try clear hb2); (try clear hk); (try clear hi); (try clear ho0)))
  go_loopg [10, 27] k (fun kq v10 v27 w' => ∃ (x10_1 : List Int) (x27_1 : Int), v27 = .int .i64 x27_1 ∧ Aside0 (bounds_Fill.l0 kq l2 t339 x10_1 a0 x27_1 = some (r1, r2)) ∧ Aside0 (kq ≤ k) ∧ Aside0 (Kd.S (Kd.slice 3 (Kd.int .i64)) 22 w' w.heap.size (fun k_ => some k_ ≠ (v10 : Value).ownBlock) v341 t339) ∧ Aside0 (Kd.R (Kd.int .i64) 3 w' w.heap.size (fun _ => True) v10 x10_1) ∧ Aside0 (Below w.heap.size w w'))
  case atStart => exact ⟨(([] : List Int)), (0), (by first | rfl | (simp; done) | (simp [*]; done)), H', ⟨Nat.le_refl _⟩, ⟨gS (Kd.S_mono HO342.out (fun _ hk => (by simp [Value.ownBlock])))⟩, ⟨by first | exact Kd.R_nil _ _ _ _ _ | exact Kd.N_nil _ _ _ _ _ | exact Kd.V_nil _ _ _ _ _ | exact Kd.Q_nil _ _ _ _ _ | exact Kd.S_nil _ _ _ _ _⟩, ⟨bl HB.out⟩⟩
  case round =>
   clear H'
   try clear c1
   try clear c2
   try clear p2
   try clear c5
   try clear c5b0
   try clear c5b1
   obtain ⟨x10_1, x27_1, rfl, HA, HK1, HO_8, HO_10, HB⟩ := hrel
   cases gk with
   | zero => exact absurd HA.out (by simp [bounds_Fill.l0])
   | succ k1 =>
    have H := HA.out
    clear HA
    simp only [bounds_Fill.l0] at H
    by_cases c7 : x27_1 < a0
    ·rw [if_pos c7] at H
     have c7b0 : decide (x27_1 < a0) = true := decide_eq_true c7
     clear c7
     replace H := Option.bind_eq_some_iff.mp H
     obtain ⟨⟨t343, t344, t345⟩, A80, H⟩ := H
     replace H : (if t345 = 0 then (if t343 = (-1099511627776) then (bounds_Fill.j1 k1 l2 t339 x10_1 x27_1 t343 t344 a0 x27_1 true) else (bounds_Fill.j1 k1 l2 t339 x10_1 x27_1 t343 t344 a0 x27_1 (t344 == 1099511627776))) else (bounds_Fill.j1 k1 l2 t339 x10_1 x27_1 t343 t344 a0 x27_1 true)) = some (r1, r2) := H
     have A8 := Aside0.mk A80
     clear A80
     have HC9 := Aside0.mk H
     clear H
     obtain ⟨Ao10, co10, eo10⟩ := Kd.S_slice HO_8.out
     subst eo10
     obtain ⟨Ao11, co11, eo11⟩ := Kd.R_slice HO_10.out
     subst eo11
     go_upto_region 9 with (first | ((with_reducible refine gate_callee (f := 21) rfl ?_); refine goesL_ (some 33) rfl rfl Try.func21 (by kernel_rfl) rfl #[.slice Ao10 t339.length co10, .slice Ao11 x10_1.length co11] rfl (by (try simp only [List.map_toArray, List.map_cons, List.map_nil]); first | done | rfl | (simp only [List.length_drop, List.length_take]; rfl)) ?_; (with_reducible refine (bounds_Range.calls _ _ t339 _ _ x10_1 t343 t344 t345 _ ?side1 ?side2 ?side3 ?side4 A8.out).mono ?_); (case side1 => exact gC ((Kd.S_reads' HO_8.out).2.2)); (case side2 => exact (Kd.S_reads' HO_8.out).2.1); (case side3 => exact gC ((Kd.R_reads' HO_10.out).2.2)); (case side4 => exact (Kd.R_reads' HO_10.out).2.1); rintro e w12 ⟨rfl, hb⟩; refine ⟨_, rfl, ?_⟩; have n0_ := Aside0.mk (Kd.S_below (gS (HO_8.out)) hb); have n1_ := Aside0.mk (Kd.R_below (gR (HO_10.out)) hb); have n2_ := Aside0.mk (below_step (bl HB.out) hb); clear HO_8; clear HO_10; clear HB; have HO_8 := n0_; have HO_10 := n1_; have HB := n2_; clear n0_ n1_ n2_; (try clear hb); (try clear hb2); (try clear hk); (try clear hi)))
     (try simp only [Act.put, List.setIfInBounds_toArray, List.set_cons_zero, List.set_cons_succ])
     go_cut [46] (fun v46 wc => ∃ (kq : Nat) (x46_8 : Bool), v46 = .bool x46_8 ∧ Aside0 (bounds_Fill.j1 kq l2 t339 x10_1 x27_1 t343 t344 a0 x27_1 x46_8 = some (r1, r2)) ∧ Aside0 (kq ≤ k1) ∧ Aside0 (Kd.S (Kd.slice 3 (Kd.int .i64)) 22 wc w.heap.size (fun k_ => some k_ ≠ ((.slice Ao11 x10_1.length co11) : Value).ownBlock) (.slice Ao10 t339.length co10) t339) ∧ Aside0 (Kd.R (Kd.int .i64) 3 wc w.heap.size (fun _ => True) (.slice Ao11 x10_1.length co11) x10_1) ∧ Aside0 (Below w.heap.size w wc))
     case first =>
      have H := HC9.out
      clear HC9
      by_cases c13 : t345 = 0
      ·rw [if_pos c13] at H
       have c13b0 : (t345 == 0) = true := beq_iff_eq.mpr c13
       have c13b1 : (t345 != 0) = false := bne_eq_false_iff_eq.mpr c13
       clear c13
       (first | rw [c13b0] | (simp only [i64_w, i32_w]; rw [c13b0]) | skip)
       by_cases c14 : t343 = (-1099511627776)
       ·rw [if_pos c14] at H
        have c14b0 : (t343 == (-1099511627776)) = true := beq_iff_eq.mpr c14
        have c14b1 : (t343 != (-1099511627776)) = false := bne_eq_false_iff_eq.mpr c14
        clear c14
        have H' := Aside0.mk H
        clear H
        go_wp2
        go_meet
        case rel => exact ⟨_, (true), (by first | rfl | (simp; done) | (simp [*]; done)), H', ⟨by have := HK1.out; first | omega | exact Nat.le_refl _⟩, ⟨gS (HO_8.out)⟩, ⟨gR (HO_10.out)⟩, ⟨bl HB.out⟩⟩
       ·rw [if_neg c14] at H
        have c14b0 : (t343 == (-1099511627776)) = false := beq_eq_false_iff_ne.mpr c14
        have c14b1 : (t343 != (-1099511627776)) = true := bne_iff_ne.mpr c14
        have H' := Aside0.mk H
        clear H
        go_wp2
        go_meet
        case rel => exact ⟨_, ((t344 == 1099511627776)), (by first | rfl | (simp; done) | (simp [*]; done)), H', ⟨by have := HK1.out; first | omega | exact Nat.le_refl _⟩, ⟨gS (HO_8.out)⟩, ⟨gR (HO_10.out)⟩, ⟨bl HB.out⟩⟩
      ·rw [if_neg c13] at H
       have c13b0 : (t345 == 0) = false := beq_eq_false_iff_ne.mpr c13
       have c13b1 : (t345 != 0) = true := bne_iff_ne.mpr c13
       (first | rw [c13b0] | (simp only [i64_w, i32_w]; rw [c13b0]) | skip)
       have H' := Aside0.mk H
       clear H
       go_wp2
       go_meet
       case rel => exact ⟨_, (true), (by first | rfl | (simp; done) | (simp [*]; done)), H', ⟨by have := HK1.out; first | omega | exact Nat.le_refl _⟩, ⟨gS (HO_8.out)⟩, ⟨gR (HO_10.out)⟩, ⟨bl HB.out⟩⟩
     case rest =>
      clear HC9
      try clear c1
      try clear c2
      try clear p2
      try clear c5
      try clear c5b0
      try clear c5b1
      try clear c7
      try clear c7b0
      try clear c12
      try clear c13
      try clear c13b0
      try clear c13b1
      try clear c14
      try clear c14b0
      try clear c14b1
      try clear p2
      obtain ⟨kq, x46_8, rfl, HA, HJ8, HO_8, HO_10, HB⟩ := hcut
      cases kq with
      | zero => exact absurd HA.out (by simp [bounds_Fill.j1])
      | succ kj8 =>
       have H := HA.out
       clear HA
       simp only [bounds_Fill.j1] at H
       by_cases c15 : x46_8 = true
       ·subst c15
        have H1 : (some (([] : List Int), 5)) = some (r1, r2) := by rw [if_pos rfl] at H; exact H
        clear H
        have H := H1
        clear H1
        simp only [Option.some.injEq, Prod.mk.injEq] at H
        obtain ⟨rfl, rfl⟩ := H
        go_wp2
        go_ret2
        exact ⟨_, by first | rfl | (simp [errW_none, errW_some] <;> rfl) | (simp [*, errW_none, errW_some] <;> rfl), by first | exact Kd.R_nil _ _ _ _ _ | exact Kd.N_nil _ _ _ _ _ | exact Kd.V_nil _ _ _ _ _ | exact Kd.Q_nil _ _ _ _ _ | exact Kd.S_nil _ _ _ _ _, bl HB.out⟩
       ·replace c15 := Bool.eq_false_iff.mpr c15
        subst c15
        have H1 : (if x27_1 < (l2.length : Int) then (if 0 ≤ x27_1 then (if (wrap64 ((wrap64 (t344 - t343)) + 1)) = 0 then (none) else (if x10_1.length < 17592186044416 then (bounds_Fill.l0 kj8 l2 t339 (x10_1 ++ [wrap64 (t343 + (Int.tmod (wrap64 ((Int.tmod (rd l2 x27_1) (wrap64 ((wrap64 (t344 - t343)) + 1))) + (wrap64 ((wrap64 (t344 - t343)) + 1)))) (wrap64 ((wrap64 (t344 - t343)) + 1))))]) a0 (wrap64 (x27_1 + 1))) else (none))) else (none)) else (if (wrap64 ((wrap64 (t344 - t343)) + 1)) = 0 then (none) else (if x10_1.length < 17592186044416 then (bounds_Fill.l0 kj8 l2 t339 (x10_1 ++ [wrap64 (t343 + (Int.tmod (wrap64 (((0 : Int) % (wrap64 ((wrap64 (t344 - t343)) + 1))) + (wrap64 ((wrap64 (t344 - t343)) + 1)))) (wrap64 ((wrap64 (t344 - t343)) + 1))))]) a0 (wrap64 (x27_1 + 1))) else (none)))) = some (r1, r2) := by rw [if_neg (show ¬ (false = true) by decide)] at H; exact H
        clear H
        have H := H1
        clear H1
        by_cases c16 : x27_1 < (l2.length : Int)
        ·rw [if_pos c16] at H
         have c16b0 : decide (x27_1 < (l2.length : Int)) = true := decide_eq_true c16
         clear c16
         by_cases c17 : 0 ≤ x27_1
         case neg => rw [if_neg c17] at H; exact absurd H (by simp)
         rw [if_pos c17] at H
         have c17b0 : decide (0 ≤ x27_1) = true := decide_eq_true c17
         clear c17
         by_cases c18 : (wrap64 ((wrap64 (t344 - t343)) + 1)) = 0
         ·rw [if_pos c18] at H
          exact absurd H (by simp)
         ·rw [if_neg c18] at H
          have c18b0 : ((wrap64 ((wrap64 (t344 - t343)) + 1)) == 0) = false := beq_eq_false_iff_ne.mpr c18
          have c18b1 : ((wrap64 ((wrap64 (t344 - t343)) + 1)) != 0) = true := bne_iff_ne.mpr c18
          by_cases c19 : x10_1.length < 17592186044416
          case neg => rw [if_neg c19] at H; exact absurd H (by simp)
          rw [if_pos c19] at H
          have LMc19 := Aside0.mk c19
          clear c19
          obtain ⟨y347, hy347⟩ : ∃ y_ : List Int, y_ = (x10_1 ++ [wrap64 (t343 + (Int.tmod (wrap64 ((Int.tmod (rd l2 x27_1) (wrap64 ((wrap64 (t344 - t343)) + 1))) + (wrap64 ((wrap64 (t344 - t343)) + 1)))) (wrap64 ((wrap64 (t344 - t343)) + 1))))]) := ⟨_, rfl⟩
          replace H : (bounds_Fill.l0 kj8 l2 t339 y347 a0 (wrap64 (x27_1 + 1))) = some (r1, r2) := by first | (rw [hy347]; with_reducible exact H) | (have H2_ := (Option.bind_some _ _).symm.trans H; rw [hy347]; with_reducible exact H2_) | (have H2_ := (Option.bind_some _ _).symm.trans H; with_reducible exact H2_) | with_reducible exact H | (rw [hy347]; exact H) | exact H
          have Ny347 := Aside0.mk hy347
          clear hy347
          have H' := Aside0.mk H
          clear H
          have p346 : 0 ≤ (x27_1 : Int) := of_decide_eq_true (by assumption)
          have q346 : x27_1 < (l2.length : Int) := of_decide_eq_true (by assumption)
          obtain ⟨ad346, e346, hx346_0⟩ := Kd.at_int HR2.out x27_1 p346 q346
          cases e346
          replace hx346_0 := (HB.out.cell (World.block_lt_of_cell? w _ hx346_0)).trans hx346_0
          replace p346 := eq_true p346
          replace q346 := eq_true q346
          go_wp2_with (first | ((with_reducible refine gate_builtin (b := .append) (xs := #[.tmp 59, .tmp 69]) rfl ?_); at_builtin; refine Kd.R_append (Kd.int .i64) (w0 := w) w.heap.size rfl (.tmp 59) (.tmp 69) 22 3 (.int .i64 0) 8 rfl Try.underlying22 info3 rfl (by decide) (by omega) (.slice Ao11 x10_1.length co11) x10_1 (wrap64 (t343 + (Int.tmod (wrap64 ((Int.tmod (rd l2 x27_1) (wrap64 ((wrap64 (t344 - t343)) + 1))) + (wrap64 ((wrap64 (t344 - t343)) + 1)))) (wrap64 ((wrap64 (t344 - t343)) + 1))))) [.int .i64 (wrap64 (t343 + (Int.tmod (wrap64 ((Int.tmod (rd l2 x27_1) (wrap64 ((wrap64 (t344 - t343)) + 1))) + (wrap64 ((wrap64 (t344 - t343)) + 1)))) (wrap64 ((wrap64 (t344 - t343)) + 1)))))] (fun _ => True) (fun _ => False) rfl rfl ?aP (fun _ hk => hk.elim) ?aF ?aO ?aB ?aS ?aL ?_; (case aP => exact rfl); (case aB => exact (bl HB.out)); (case aF => exact (fun _ _ => trivial)); (case aO => exact (gR (HO_10.out))); (case aS => exact (below_size (bl HB.out))); (case aL => have := LMc19.out; omega); intro v348 w20 ho hb hg hat; rw [← Ny347.out] at ho; have n0_ := Aside0.mk (Kd.S_after (ok := (fun _ => True)) (gS (Kd.S_mono HO_8.out (fun _ hk => ⟨trivial, hk⟩))) hg hat); have n1_ := Aside0.mk (hb); have n2_ := Aside0.mk (ho); clear HO_8; clear HB; clear HO_10; have HO_8 := n0_; have HB := n1_; have HO349 := n2_; clear n0_ n1_ n2_; clear ho hb hg hat))
          go_roundg kj8
          case measure => have := HK1.out; have := HJ8.out; omega
          case rel => exact ⟨(y347), (wrap64 (x27_1 + 1)), (by first | rfl | (simp; done) | (simp [*]; done)), H', ⟨by have := HK1.out; have := HJ8.out; omega⟩, ⟨gS (Kd.S_mono HO_8.out (fun _ hk => hk.2))⟩, ⟨gR (HO349.out)⟩, ⟨bl HB.out⟩⟩
        ·rw [if_neg c16] at H
         have c16b0 : decide (x27_1 < (l2.length : Int)) = false := decide_eq_false c16
         clear c16
         by_cases c21 : (wrap64 ((wrap64 (t344 - t343)) + 1)) = 0
         ·rw [if_pos c21] at H
          exact absurd H (by simp)
         ·rw [if_neg c21] at H
          have c21b0 : ((wrap64 ((wrap64 (t344 - t343)) + 1)) == 0) = false := beq_eq_false_iff_ne.mpr c21
          have c21b1 : ((wrap64 ((wrap64 (t344 - t343)) + 1)) != 0) = true := bne_iff_ne.mpr c21
          by_cases c22 : x10_1.length < 17592186044416
          case neg => rw [if_neg c22] at H; exact absurd H (by simp)
          rw [if_pos c22] at H
          have LMc22 := Aside0.mk c22
          clear c22
          obtain ⟨y350, hy350⟩ : ∃ y_ : List Int, y_ = (x10_1 ++ [wrap64 (t343 + (Int.tmod (wrap64 (((0 : Int) % (wrap64 ((wrap64 (t344 - t343)) + 1))) + (wrap64 ((wrap64 (t344 - t343)) + 1)))) (wrap64 ((wrap64 (t344 - t343)) + 1))))]) := ⟨_, rfl⟩
          replace H : (bounds_Fill.l0 kj8 l2 t339 y350 a0 (wrap64 (x27_1 + 1))) = some (r1, r2) := by first | (rw [hy350]; with_reducible exact H) | (have H2_ := (Option.bind_some _ _).symm.trans H; rw [hy350]; with_reducible exact H2_) | (have H2_ := (Option.bind_some _ _).symm.trans H; with_reducible exact H2_) | with_reducible exact H | (rw [hy350]; exact H) | exact H
          rw [show ((0 : Int) % (wrap64 ((wrap64 (t344 - t343)) + 1))) + (wrap64 ((wrap64 (t344 - t343)) + 1)) = (wrap64 ((wrap64 (t344 - t343)) + 1)) from by simp] at hy350
          have Ny350 := Aside0.mk hy350
          clear hy350
          have H' := Aside0.mk H
          clear H
          go_wp2_with (first | ((with_reducible refine gate_builtin (b := .append) (xs := #[.tmp 59, .tmp 69]) rfl ?_); at_builtin; refine Kd.R_append (Kd.int .i64) (w0 := w) w.heap.size rfl (.tmp 59) (.tmp 69) 22 3 (.int .i64 0) 8 rfl Try.underlying22 info3 rfl (by decide) (by omega) (.slice Ao11 x10_1.length co11) x10_1 (wrap64 (t343 + (Int.tmod (wrap64 ((wrap64 ((wrap64 (t344 - t343)) + 1)))) (wrap64 ((wrap64 (t344 - t343)) + 1))))) [.int .i64 (wrap64 (t343 + (Int.tmod (wrap64 ((wrap64 ((wrap64 (t344 - t343)) + 1)))) (wrap64 ((wrap64 (t344 - t343)) + 1)))))] (fun _ => True) (fun _ => False) rfl rfl ?aP (fun _ hk => hk.elim) ?aF ?aO ?aB ?aS ?aL ?_; (case aP => exact rfl); (case aB => exact (bl HB.out)); (case aF => exact (fun _ _ => trivial)); (case aO => exact (gR (HO_10.out))); (case aS => exact (below_size (bl HB.out))); (case aL => have := LMc22.out; omega); intro v351 w23 ho hb hg hat; rw [← Ny350.out] at ho; have n0_ := Aside0.mk (Kd.S_after (ok := (fun _ => True)) (gS (Kd.S_mono HO_8.out (fun _ hk => ⟨trivial, hk⟩))) hg hat); have n1_ := Aside0.mk (hb); have n2_ := Aside0.mk (ho); clear HO_8; clear HB; clear HO_10; have HO_8 := n0_; have HB := n1_; have HO352 := n2_; clear n0_ n1_ n2_; clear ho hb hg hat))
          go_roundg kj8
          case measure => have := HK1.out; have := HJ8.out; omega
          case rel => exact ⟨(y350), (wrap64 (x27_1 + 1)), (by first | rfl | (simp; done) | (simp [*]; done)), H', ⟨by have := HK1.out; have := HJ8.out; omega⟩, ⟨gS (Kd.S_mono HO_8.out (fun _ hk => hk.2))⟩, ⟨gR (HO352.out)⟩, ⟨bl HB.out⟩⟩
    ·rw [if_neg c7] at H
     have c7b0 : decide (x27_1 < a0) = false := decide_eq_false c7
     clear c7
     simp only [Option.some.injEq, Prod.mk.injEq] at H
     obtain ⟨rfl, rfl⟩ := H
     go_wp2
     go_ret2
     exact ⟨_, by first | rfl | (simp [errW_none, errW_some] <;> rfl) | (simp [*, errW_none, errW_some] <;> rfl), gR (HO_10.out), bl HB.out⟩
 ·rw [if_neg c5] at H
  have c5b0 : (t340 == 0) = false := beq_eq_false_iff_ne.mpr c5
  have c5b1 : (t340 != 0) = true := bne_iff_ne.mpr c5
  simp only [Option.some.injEq, Prod.mk.injEq] at H
  obtain ⟨rfl, rfl⟩ := H
  go_enter Try.func23, Try.ntmps23
  go_wp2_with (first | ((with_reducible refine gate_callee (f := 12) rfl ?_); refine goesL_ (some 20) rfl rfl Try.func12 (by kernel_rfl) rfl #[.int .i64 a0, .slice A1 l1.length c1] rfl (by (try simp only [List.map_toArray, List.map_cons, List.map_nil]); first | done | rfl | (simp only [List.length_drop, List.length_take]; rfl)) ?_; (with_reducible refine (bounds_Close.calls k a0 _ _ l1 t339 t340 _ ?side1 ?side2 A4.out).mono ?_); (case side1 => exact gC (HR1.out)); (case side2 => exact HC1.out); rintro e w24 ⟨v341, rfl, ho0, hb⟩; refine ⟨_, rfl, ?_⟩; have n0_ := Aside0.mk (Kd.S_lower ho0 (below_size (bl HB.out))); have n1_ := Aside0.mk (below_step (bl HB.out) hb); clear HB; have HO342 := n0_; have HB := n1_; clear n0_ n1_; (try clear hb); (try clear hb2); (try clear hk); (try clear hi); (try clear ho0)))
  go_ret2
  exact ⟨_, by first | rfl | (simp [errW_none, errW_some] <;> rfl) | (simp [*, errW_none, errW_some] <;> rfl), by first | exact Kd.R_nil _ _ _ _ _ | exact Kd.N_nil _ _ _ _ _ | exact Kd.V_nil _ _ _ _ _ | exact Kd.Q_nil _ _ _ _ _ | exact Kd.S_nil _ _ _ _ _, bl HB.out⟩
-- NOT PRINTED: function 43 (bounds_Diff)
end Go.Proofs.Ytcnkjcbjlopkmaa.Q
