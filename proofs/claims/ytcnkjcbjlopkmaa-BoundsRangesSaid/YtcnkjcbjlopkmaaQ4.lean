-- Printed by wip/tools/myprint.py
import Derived.Test.YtcnkjcbjlopkmaaSp
import Derived.Test.YtcnkjcbjlopkmaaRep
import Derived.Test.YtcnkjcbjlopkmaaSh
import Derived.Test.YtcnkjcbjlopkmaaQ0
namespace Go.Proofs.Ytcnkjcbjlopkmaa.Q
open Go.RowKit Go.Proofs.YtcnkjcbjlopkmaaW.PrintWords Go.Proofs.YtcnkjcbjlopkmaaW.PrintLast Go.Proofs.YtcnkjcbjlopkmaaW.PrintMore
attribute [local go_sem] max2_int min2_int max_two min_two max_three min_three max_four min_four
set_option linter.unusedVariables false
set_option linter.unusedSimpArgs false
mutual
def bounds_closed.l0 : Nat → Int → List (S78) → List (List Int) → Int → Int → Option ((List (List Int)) × Bool)
 | 0, _, _, _, _, _ => none
 | k + 1, x0, x1, x6, x21, x22 => if x22 < x21 then ((slices_Repeat_int_int.f (([1099511627776] : List Int)) (wrap64 (x0 + 1))).bind fun t172 => (if 0 ≤ x22 then (if x22 < (x6.length : Int) then ((some (x6.set (x22 : Int).toNat t172 : List (List Int))).bind fun y175 => (if x22 < ((rd_L4 y175 x22).length : Int) then (bounds_closed.l0 k x0 x1 (y175.set (x22 : Int).toNat ((rd_L4 y175 x22).set (x22 : Int).toNat 0)) x21 (wrap64 (x22 + 1))) else (none))) else (none)) else (none))) else (bounds_closed.l1 k x0 x6 x1 (x1.length : Int) 0)
def bounds_closed.l1 : Nat → Int → List (List Int) → List (S78) → Int → Int → Option ((List (List Int)) × Bool)
 | 0, _, _, _, _, _ => none
 | k + 1, x0, x6, x39, x40, x41 => if x41 < x40 then (if 0 ≤ x41 then (if x41 < (x39.length : Int) then (if 0 ≤ ((rd_T78 x39 x41).f0) then (if ((rd_T78 x39 x41).f0) < (x6.length : Int) then (if 0 ≤ ((rd_T78 x39 x41).f1) then (if ((rd_T78 x39 x41).f1) < ((rd_L4 x6 ((rd_T78 x39 x41).f0)).length : Int) then (bounds_closed.l1 k x0 (x6.set (((rd_T78 x39 x41).f0) : Int).toNat ((rd_L4 x6 ((rd_T78 x39 x41).f0)).set (((rd_T78 x39 x41).f1) : Int).toNat (mn (rd (rd_L4 x6 ((rd_T78 x39 x41).f0)) ((rd_T78 x39 x41).f1)) ((rd_T78 x39 x41).f2)))) x39 x40 (wrap64 (x41 + 1))) else (none)) else (none)) else (none)) else (none)) else (none)) else (none)) else (bounds_closed.l2 k x0 x6 (x6.length : Int) 0)
def bounds_closed.l2 : Nat → Int → List (List Int) → Int → Int → Option ((List (List Int)) × Bool)
 | 0, _, _, _, _ => none
 | k + 1, x0, x6, x67, x68 => if x68 < x67 then (if 0 ≤ (wrap64 (x0 + 1)) then (if (wrap64 (x0 + 1) : Int).toNat ≤ 35184372088832 then ((some (List.replicate (wrap64 (x0 + 1) : Int).toNat 0 : List Int)).bind fun y188 => (if 0 ≤ x68 then (if x68 < (x6.length : Int) then (bounds_closed.l3 k x0 x6 x68 ((rd_L4 x6 x68).take (min (rd_L4 x6 x68).length y188.length) ++ y188.drop (min (rd_L4 x6 x68).length y188.length)) x67 x68 (x6.length : Int) 0) else (none)) else (none))) else (none)) else (none)) else (bounds_closed.l5 k x6 (x6.length : Int) 0)
def bounds_closed.l3 : Nat → Int → List (List Int) → Int → List Int → Int → Int → Int → Int → Option ((List (List Int)) × Bool)
 | 0, _, _, _, _, _, _, _, _ => none
 | k + 1, x0, x6, x10, x11, x67, x68, x81, x82 => if x82 < x81 then (if 0 ≤ x82 then (if x82 < (x6.length : Int) then (if 0 ≤ x10 then (if x10 < ((rd_L4 x6 x82).length : Int) then (if (rd (rd_L4 x6 x82) x10) ≥ 1099511627776 then (bounds_closed.l3 k x0 x6 x10 x11 x67 x68 x81 (wrap64 (x82 + 1))) else (bounds_closed.l4 k x0 x6 x10 x11 x82 (rd_L4 x6 x82) x67 x68 x81 x82 (x11.length : Int) 0)) else (none)) else (none)) else (none)) else (none)) else (bounds_closed.l2 k x0 x6 x67 (wrap64 (x68 + 1)))
def bounds_closed.l4 : Nat → Int → List (List Int) → Int → List Int → Int → List Int → Int → Int → Int → Int → Int → Int → Option ((List (List Int)) × Bool)
 | 0, _, _, _, _, _, _, _, _, _, _, _, _ => none
 | k + 1, x0, x6, x10, x11, x12, x13, x67, x68, x81, x82, x93, x94 => if x94 < x93 then (if 0 ≤ x94 then (if x94 < (x11.length : Int) then (if (rd x11 x94) < 1099511627776 then (if 0 ≤ x12 then (if x12 < (x6.length : Int) then (if x94 < ((rd_L4 x6 x12).length : Int) then (if 0 ≤ x10 then (if x10 < ((rd_L4 x6 x12).length : Int) then (if x94 < ((rd_L4 x6 x12).length : Int) then (bounds_closed.l4 k x0 (x6.set (x12 : Int).toNat ((rd_L4 x6 x12).set (x94 : Int).toNat (mn (rd (rd_L4 x6 x12) x94) (wrap64 ((rd (rd_L4 x6 x12) x10) + (rd x11 x94)))))) x10 x11 x12 x13 x67 x68 x81 x82 x93 (wrap64 (x94 + 1))) else (none)) else (none)) else (none)) else (none)) else (none)) else (none)) else (bounds_closed.l4 k x0 x6 x10 x11 x12 x13 x67 x68 x81 x82 x93 (wrap64 (x94 + 1)))) else (none)) else (none)) else (bounds_closed.l3 k x0 x6 x10 x11 x67 x68 x81 (wrap64 (x82 + 1)))
def bounds_closed.l5 : Nat → List (List Int) → Int → Int → Option ((List (List Int)) × Bool)
 | 0, _, _, _ => none
 | k + 1, x6, x122, x123 => if x123 < x122 then (if 0 ≤ x123 then (if x123 < (x6.length : Int) then (if x123 < ((rd_L4 x6 x123).length : Int) then (if (rd (rd_L4 x6 x123) x123) < 0 then (some (([] : List (List Int)), false)) else (bounds_closed.l5 k x6 x122 (wrap64 (x123 + 1)))) else (none)) else (none)) else (none)) else (some (x6, true))
end
def bounds_closed.f (k : Nat) (a0 : Int) (l1 : List (S78)) : Option ((List (List Int)) × Bool) := if 0 ≤ (wrap64 (a0 + 1)) then (if (wrap64 (a0 + 1) : Int).toNat ≤ 11728124029610 then ((some (List.replicate (wrap64 (a0 + 1) : Int).toNat [] : List (List Int))).bind fun y166 => (bounds_closed.l0 k a0 l1 y166 (y166.length : Int) 0)) else (none)) else (none)
theorem bounds_closed.mono_l : ∀ k, (∀ y0 y1 y2 y3 y4, LeO (bounds_closed.l0 k y0 y1 y2 y3 y4) (bounds_closed.l0 (k + 1) y0 y1 y2 y3 y4)) ∧ (∀ y0 y1 y2 y3 y4, LeO (bounds_closed.l1 k y0 y1 y2 y3 y4) (bounds_closed.l1 (k + 1) y0 y1 y2 y3 y4)) ∧ (∀ y0 y1 y2 y3, LeO (bounds_closed.l2 k y0 y1 y2 y3) (bounds_closed.l2 (k + 1) y0 y1 y2 y3)) ∧ (∀ y0 y1 y2 y3 y4 y5 y6 y7, LeO (bounds_closed.l3 k y0 y1 y2 y3 y4 y5 y6 y7) (bounds_closed.l3 (k + 1) y0 y1 y2 y3 y4 y5 y6 y7)) ∧ (∀ y0 y1 y2 y3 y4 y5 y6 y7 y8 y9 y10 y11, LeO (bounds_closed.l4 k y0 y1 y2 y3 y4 y5 y6 y7 y8 y9 y10 y11) (bounds_closed.l4 (k + 1) y0 y1 y2 y3 y4 y5 y6 y7 y8 y9 y10 y11)) ∧ (∀ y0 y1 y2, LeO (bounds_closed.l5 k y0 y1 y2) (bounds_closed.l5 (k + 1) y0 y1 y2))
 | 0 => ⟨fun _ _ _ _ _ r h => by simp [bounds_closed.l0] at h, fun _ _ _ _ _ r h => by simp [bounds_closed.l1] at h, fun _ _ _ _ r h => by simp [bounds_closed.l2] at h, fun _ _ _ _ _ _ _ _ r h => by simp [bounds_closed.l3] at h, fun _ _ _ _ _ _ _ _ _ _ _ _ r h => by simp [bounds_closed.l4] at h, fun _ _ _ r h => by simp [bounds_closed.l5] at h⟩
 | k + 1 => by
  obtain ⟨ih0, ih1, ih2, ih3, ih4, ih5⟩ := bounds_closed.mono_l k
  refine ⟨?_, ?_, ?_, ?_, ?_, ?_⟩
  ·intro y0 y1 y2 y3 y4
   unfold bounds_closed.l0
   repeat' first
   | (with_reducible exact ih0 _ _ _ _ _)
   | (with_reducible exact ih1 _ _ _ _ _)
   | (with_reducible exact ih2 _ _ _ _)
   | (with_reducible exact ih3 _ _ _ _ _ _ _ _)
   | (with_reducible exact ih4 _ _ _ _ _ _ _ _ _ _ _ _)
   | (with_reducible exact ih5 _ _ _)
   | (with_reducible exact LeO.refl _)
   | (with_reducible exact LeO.none _)
   | (with_reducible refine LeO.ite ?_ ?_)
   | (with_reducible refine LeO.bind ?_ (fun _ => ?_))
   | exact LeO.none _
   | refine LeO.ite ?_ ?_
   | refine LeO.bind ?_ (fun _ => ?_)
  ·intro y0 y1 y2 y3 y4
   unfold bounds_closed.l1
   repeat' first
   | (with_reducible exact ih0 _ _ _ _ _)
   | (with_reducible exact ih1 _ _ _ _ _)
   | (with_reducible exact ih2 _ _ _ _)
   | (with_reducible exact ih3 _ _ _ _ _ _ _ _)
   | (with_reducible exact ih4 _ _ _ _ _ _ _ _ _ _ _ _)
   | (with_reducible exact ih5 _ _ _)
   | (with_reducible exact LeO.refl _)
   | (with_reducible exact LeO.none _)
   | (with_reducible refine LeO.ite ?_ ?_)
   | (with_reducible refine LeO.bind ?_ (fun _ => ?_))
   | exact LeO.none _
   | refine LeO.ite ?_ ?_
   | refine LeO.bind ?_ (fun _ => ?_)
  ·intro y0 y1 y2 y3
   unfold bounds_closed.l2
   repeat' first
   | (with_reducible exact ih0 _ _ _ _ _)
   | (with_reducible exact ih1 _ _ _ _ _)
   | (with_reducible exact ih2 _ _ _ _)
   | (with_reducible exact ih3 _ _ _ _ _ _ _ _)
   | (with_reducible exact ih4 _ _ _ _ _ _ _ _ _ _ _ _)
   | (with_reducible exact ih5 _ _ _)
   | (with_reducible exact LeO.refl _)
   | (with_reducible exact LeO.none _)
   | (with_reducible refine LeO.ite ?_ ?_)
   | (with_reducible refine LeO.bind ?_ (fun _ => ?_))
   | exact LeO.none _
   | refine LeO.ite ?_ ?_
   | refine LeO.bind ?_ (fun _ => ?_)
  ·intro y0 y1 y2 y3 y4 y5 y6 y7
   unfold bounds_closed.l3
   repeat' first
   | (with_reducible exact ih0 _ _ _ _ _)
   | (with_reducible exact ih1 _ _ _ _ _)
   | (with_reducible exact ih2 _ _ _ _)
   | (with_reducible exact ih3 _ _ _ _ _ _ _ _)
   | (with_reducible exact ih4 _ _ _ _ _ _ _ _ _ _ _ _)
   | (with_reducible exact ih5 _ _ _)
   | (with_reducible exact LeO.refl _)
   | (with_reducible exact LeO.none _)
   | (with_reducible refine LeO.ite ?_ ?_)
   | (with_reducible refine LeO.bind ?_ (fun _ => ?_))
   | exact LeO.none _
   | refine LeO.ite ?_ ?_
   | refine LeO.bind ?_ (fun _ => ?_)
  ·intro y0 y1 y2 y3 y4 y5 y6 y7 y8 y9 y10 y11
   unfold bounds_closed.l4
   repeat' first
   | (with_reducible exact ih0 _ _ _ _ _)
   | (with_reducible exact ih1 _ _ _ _ _)
   | (with_reducible exact ih2 _ _ _ _)
   | (with_reducible exact ih3 _ _ _ _ _ _ _ _)
   | (with_reducible exact ih4 _ _ _ _ _ _ _ _ _ _ _ _)
   | (with_reducible exact ih5 _ _ _)
   | (with_reducible exact LeO.refl _)
   | (with_reducible exact LeO.none _)
   | (with_reducible refine LeO.ite ?_ ?_)
   | (with_reducible refine LeO.bind ?_ (fun _ => ?_))
   | exact LeO.none _
   | refine LeO.ite ?_ ?_
   | refine LeO.bind ?_ (fun _ => ?_)
  ·intro y0 y1 y2
   unfold bounds_closed.l5
   repeat' first
   | (with_reducible exact ih0 _ _ _ _ _)
   | (with_reducible exact ih1 _ _ _ _ _)
   | (with_reducible exact ih2 _ _ _ _)
   | (with_reducible exact ih3 _ _ _ _ _ _ _ _)
   | (with_reducible exact ih4 _ _ _ _ _ _ _ _ _ _ _ _)
   | (with_reducible exact ih5 _ _ _)
   | (with_reducible exact LeO.refl _)
   | (with_reducible exact LeO.none _)
   | (with_reducible refine LeO.ite ?_ ?_)
   | (with_reducible refine LeO.bind ?_ (fun _ => ?_))
   | exact LeO.none _
   | refine LeO.ite ?_ ?_
   | refine LeO.bind ?_ (fun _ => ?_)
theorem bounds_closed.mono : ∀ a0 a1 k, LeO (bounds_closed.f k a0 a1) (bounds_closed.f (k + 1) a0 a1) := by
 intro a0 a1 k
 obtain ⟨ih0, ih1, ih2, ih3, ih4, ih5⟩ := bounds_closed.mono_l k
 unfold bounds_closed.f
 repeat' first
   | (with_reducible exact ih0 _ _ _ _ _)
   | (with_reducible exact ih1 _ _ _ _ _)
   | (with_reducible exact ih2 _ _ _ _)
   | (with_reducible exact ih3 _ _ _ _ _ _ _ _)
   | (with_reducible exact ih4 _ _ _ _ _ _ _ _ _ _ _ _)
   | (with_reducible exact ih5 _ _ _)
   | (with_reducible exact LeO.refl _)
   | (with_reducible exact LeO.none _)
   | (with_reducible refine LeO.ite ?_ ?_)
   | (with_reducible refine LeO.bind ?_ (fun _ => ?_))
   | exact LeO.none _
   | refine LeO.ite ?_ ?_
   | refine LeO.bind ?_ (fun _ => ?_)
def bounds_closed.T11 : Bool × List (List Nat × List Nat) := (true, [([], []), ([], []), ([1], [1]), ([0, 2], [0, 2]), ([3], [3]), ([], []), ([5], [5]), ([], []), ([], []), ([8], [8]), ([7, 9], [7, 9]), ([10], [10]), ([], []), ([12], [12]), ([11, 13], [11, 13]), ([14], [14]), ([], []), ([16], [16]), ([15, 17], [15, 17]), ([4, 6, 0, 1, 2, 3, 4, 5, 6, 7, 8, 9, 10, 11, 12, 13, 14, 15, 16, 17, 18], [4, 6]), ([19, 18, 0, 1, 2, 3, 4, 5, 6, 7, 8, 9, 10, 11, 12, 13, 14, 15, 16, 17, 18], [18, 19])])
def bounds_closed.B11 : List Nat := [0, 0, 2, 7, 15, 0, 32, 0, 0, 256, 896, 1920, 0, 4096, 16256, 32640, 0, 65536, 262016, 524287, 1048575]
theorem bounds_closed.tab11 : rtab .any (opsOf Try.f29 11) = bounds_closed.T11 := by kernel_rfl
theorem bounds_closed.bits11 : waitsOk bounds_closed.T11.2 bounds_closed.B11 = true := by kernel_rfl
def bounds_closed.T26 : Bool × List (List Nat × List Nat) := (true, [([], []), ([], []), ([0, 1], [0, 1]), ([2], [2]), ([], []), ([], []), ([], []), ([5, 6], [5, 6]), ([7], [7]), ([], []), ([], []), ([9, 10], [9, 10]), ([11], [11]), ([], []), ([12, 13], [12, 13]), ([8, 14], [8, 14]), ([3, 4, 0, 1, 2, 3, 4, 5, 6, 7, 8, 9, 10, 11, 12, 13, 14, 15], [3, 4]), ([16, 15, 0, 1, 2, 3, 4, 5, 6, 7, 8, 9, 10, 11, 12, 13, 14, 15], [15, 16])])
def bounds_closed.B26 : List Nat := [0, 0, 3, 7, 0, 0, 0, 96, 224, 0, 0, 1536, 3584, 0, 15872, 32736, 65535, 131071]
theorem bounds_closed.tab26 : rtab .any (opsOf Try.f29 26) = bounds_closed.T26 := by kernel_rfl
theorem bounds_closed.bits26 : waitsOk bounds_closed.T26.2 bounds_closed.B26 = true := by kernel_rfl
set_option maxHeartbeats 8000000 in
set_option maxRecDepth 100000 in
theorem bounds_closed.calls (k : Nat) (a0 : Int) (A1 : Option Addr) (c1 : Nat) (l1 : List (S78)) (r1 : List (List Int)) (r2 : Bool) (w : World) (hr1 : Kd.C k78 w A1 l1.length l1) (hc1 : l1.length ≤ c1) (h : bounds_closed.f k a0 l1 = some (r1, r2)) :
  Calls Try.prog 29 #[.int .i64 a0, .slice A1 l1.length c1] w fun e w' => ∃ v0_ : Value, e = .returned (.tuple #[v0_, .bool r2]) ∧ Kd.S (Kd.slice 3 (Kd.int .i64)) 22 w' w.heap.size (fun _ => True) v0_ r1 ∧ Below w.heap.size w w' := by
 have hu78 := Try.underlying78
 have HR1 := Aside0.mk hr1
 have HC1 := Aside0.mk hc1
 clear hr1 hc1
 have HB := Aside0.mk (Below.refl w.heap.size w)
 have H : (if 0 ≤ (wrap64 (a0 + 1)) then (if (wrap64 (a0 + 1) : Int).toNat ≤ 11728124029610 then ((some (List.replicate (wrap64 (a0 + 1) : Int).toNat [] : List (List Int))).bind fun y166 => (bounds_closed.l0 k a0 l1 y166 (y166.length : Int) 0)) else (none)) else (none)) = some (r1, r2) := h
 clear h
 obtain ⟨ji3, hji3⟩ : ∃ j_ : Int, (wrap64 (a0 + 1)) = j_ := ⟨_, rfl⟩
 replace H : (if 0 ≤ (ji3) then (if (ji3 : Int).toNat ≤ 11728124029610 then ((some (List.replicate (ji3 : Int).toNat [] : List (List Int))).bind fun y166 => (bounds_closed.l0 k a0 l1 y166 (y166.length : Int) 0)) else (none)) else (none)) = some (r1, r2) := by first | (rw [hji3] at H; exact H) | (simp only [hji3] at H ⊢; exact H)
 have hji3w : (IntKind.i64.wrap (a0 + 1)) = ji3 := (i64_w _).trans hji3
 by_cases c4 : 0 ≤ (ji3)
 case neg => rw [if_neg c4] at H; exact absurd H (by simp)
 rw [if_pos c4] at H
 have c4b0 := eq_true c4
 have c4b1 : decide (0 ≤ (ji3)) = true := decide_eq_true c4
 clear c4
 by_cases c5 : (ji3 : Int).toNat ≤ 11728124029610
 case neg => rw [if_neg c5] at H; exact absurd H (by simp)
 rw [if_pos c5] at H
 have c5b0 := eq_true c5
 have c5b1 : decide ((ji3 : Int).toNat ≤ 11728124029610) = true := decide_eq_true c5
 clear c5
 obtain ⟨y166, hy166⟩ : ∃ y_ : List (List Int), y_ = (List.replicate (ji3 : Int).toNat []) := ⟨_, rfl⟩
 replace H : (bounds_closed.l0 k a0 l1 y166 (y166.length : Int) 0) = some (r1, r2) := by first | (rw [hy166]; with_reducible exact H) | (have H2_ := (Option.bind_some _ _).symm.trans H; rw [hy166]; with_reducible exact H2_) | (have H2_ := (Option.bind_some _ _).symm.trans H; with_reducible exact H2_) | with_reducible exact H | (rw [hy166]; exact H) | exact H
 have Ny166 := Aside0.mk hy166
 clear hy166
 have H' := Aside0.mk H
 clear H
 go_enter Try.func29, Try.ntmps29
 go_wp2_with (first | ((with_reducible refine gate_dst (N := 19) rfl ?_); refine Kd.S_make (Kd.slice 3 (Kd.int .i64)) _ 22 rfl (N := 19) rfl 29 _ _ rfl ji3 rfl rfl Try.underlying29 (.slice none 0 0) 24 info22 rfl (by decide) (by omega) [] (ok := fun _ => True) (okp := fun _ => True) ⟨_, rfl, Kd.R_nil _ _ _ _ _⟩ (fun _ hk => hk) trivial (of_decide_eq_true (by with_reducible assumption)) (Nat.le_trans (Nat.mul_le_mul_right _ (of_decide_eq_true (by with_reducible assumption) : ji3.toNat ≤ 11728124029610)) (by omega)) (Below.refl _ _) (Nat.le_refl _) ?_; intro v167 w6 ho7 hb hg_ hnew_; clear hg_ hnew_; (first | rw [← Ny166.out] at ho7 | (simp only [Int.reduceToNat] at ho7; rw [← Ny166.out] at ho7)); have n0_ := Aside0.mk (Kd.S_lower ho7 (below_size (by repeat (first | (with_reducible first | exact HB.out | apply below_alloc | apply pw_below_drewN | apply below_drew1) | exact HB.out)))); have n1_ := Aside0.mk (below_step (by repeat (first | (with_reducible first | exact HB.out | apply below_alloc | apply pw_below_drewN | apply below_drew1) | exact HB.out)) hb); clear HB; have HO168 := n0_; have HB := n1_; clear n0_ n1_; clear hb ho7; obtain ⟨Ao8, co8, eo8⟩ := Kd.S_slice HO168.out; subst eo8))
 go_loopg [22] k (fun kq v22 w' => ∃ (x6_1 : List (List Int)) (x22_1 : Int), v22 = .int .i64 x22_1 ∧ Aside0 (bounds_closed.l0 kq a0 l1 x6_1 (y166.length : Int) x22_1 = some (r1, r2)) ∧ Aside0 (kq ≤ k) ∧ Aside0 (Kd.S (Kd.slice 3 (Kd.int .i64)) 22 w' w.heap.size (fun _ => True) (.slice Ao8 y166.length co8) x6_1) ∧ Aside0 (Below w.heap.size w w'))
 case atStart => exact ⟨(y166), (0), (by first | rfl | (simp; done) | (simp [*]; done)), H', ⟨Nat.le_refl _⟩, ⟨by (with_reducible repeat (first | apply Kd.S_alloc | apply Kd.S_drewN | apply Kd.S_drew)); exact HO168.out⟩, ⟨by repeat (first | (with_reducible first | exact HB.out | apply below_alloc | apply pw_below_drewN | apply below_drew1) | exact HB.out)⟩⟩
 case round =>
  clear H'
  try clear c1
  try clear c2
  try clear p2
  try clear c4
  try clear c4b0
  try clear c4b1
  try clear c5
  try clear c5b0
  try clear c5b1
  try clear p6
  (try clear hji3_)
  (try clear hji3w)
  (try clear hji3)
  obtain ⟨x6_1, x22_1, rfl, HA, HK1, HO_6, HB⟩ := hrel
  have hl6_1 := (Kd.S_reads' HO_6.out).1
  rw [hl6_1] at HO_6
  (try simp only [hl6_1])
  cases gk with
  | zero => exact absurd HA.out (by simp [bounds_closed.l0])
  | succ k1 =>
   have H := HA.out
   clear HA
   simp only [bounds_closed.l0] at H
   by_cases c9 : x22_1 < (y166.length : Int)
   ·rw [if_pos c9] at H
    have c9b0 : decide (x22_1 < (y166.length : Int)) = true := decide_eq_true c9
    have c9b0x := c9b0; (try simp only [hl6_1] at c9b0x)
    clear c9
    obtain ⟨y169, hy169⟩ : ∃ y_ : List Int, y_ = (([1099511627776] : List Int)) := ⟨_, rfl⟩
    replace H : ((slices_Repeat_int_int.f y169 (wrap64 (a0 + 1))).bind fun t172 => (if 0 ≤ x22_1 then (if x22_1 < (x6_1.length : Int) then ((some (x6_1.set (x22_1 : Int).toNat t172 : List (List Int))).bind fun y175 => (if x22_1 < ((rd_L4 y175 x22_1).length : Int) then (bounds_closed.l0 k1 a0 l1 (y175.set (x22_1 : Int).toNat ((rd_L4 y175 x22_1).set (x22_1 : Int).toNat 0)) (y166.length : Int) (wrap64 (x22_1 + 1))) else (none))) else (none)) else (none))) = some (r1, r2) := by first | (rw [hy169]; with_reducible exact H) | (have H2_ := (Option.bind_some _ _).symm.trans H; rw [hy169]; with_reducible exact H2_) | (have H2_ := (Option.bind_some _ _).symm.trans H; with_reducible exact H2_) | with_reducible exact H | (rw [hy169]; exact H) | exact H
    have Ny169 := Aside0.mk hy169
    clear hy169
    replace H := Option.bind_eq_some_iff.mp H
    obtain ⟨t172, A100, H⟩ := H
    replace H : (if 0 ≤ x22_1 then (if x22_1 < (x6_1.length : Int) then ((some (x6_1.set (x22_1 : Int).toNat t172 : List (List Int))).bind fun y175 => (if x22_1 < ((rd_L4 y175 x22_1).length : Int) then (bounds_closed.l0 k1 a0 l1 (y175.set (x22_1 : Int).toNat ((rd_L4 y175 x22_1).set (x22_1 : Int).toNat 0)) (y166.length : Int) (wrap64 (x22_1 + 1))) else (none))) else (none)) else (none)) = some (r1, r2) := H
    have A10 := Aside0.mk A100
    clear A100
    by_cases c11 : 0 ≤ x22_1
    case neg => rw [if_neg c11] at H; exact absurd H (by simp)
    rw [if_pos c11] at H
    have c11b0 : decide (0 ≤ x22_1) = true := decide_eq_true c11
    clear c11
    by_cases c12 : x22_1 < (x6_1.length : Int)
    case neg => rw [if_neg c12] at H; exact absurd H (by simp)
    rw [if_pos c12] at H
    have c12b0 : decide (x22_1 < (x6_1.length : Int)) = true := decide_eq_true c12
    have c12b0x := c12b0; (try simp only [hl6_1] at c12b0x)
    clear c12
    obtain ⟨y175, hy175⟩ : ∃ y_ : List (List Int), y_ = (x6_1.set (x22_1 : Int).toNat t172) := ⟨_, rfl⟩
    replace H : (if x22_1 < ((rd_L4 y175 x22_1).length : Int) then (bounds_closed.l0 k1 a0 l1 (y175.set (x22_1 : Int).toNat ((rd_L4 y175 x22_1).set (x22_1 : Int).toNat 0)) (y166.length : Int) (wrap64 (x22_1 + 1))) else (none)) = some (r1, r2) := by first | (rw [hy175]; with_reducible exact H) | (have H2_ := (Option.bind_some _ _).symm.trans H; rw [hy175]; with_reducible exact H2_) | (have H2_ := (Option.bind_some _ _).symm.trans H; with_reducible exact H2_) | with_reducible exact H | (rw [hy175]; exact H) | exact H
    have Ny175 := Aside0.mk hy175
    clear hy175
    by_cases c14 : x22_1 < ((rd_L4 y175 x22_1).length : Int)
    case neg => rw [if_neg c14] at H; exact absurd H (by simp)
    rw [if_pos c14] at H
    have c14b0 : decide (x22_1 < ((rd_L4 y175 x22_1).length : Int)) = true := decide_eq_true c14
    have c14b0x := c14b0; (try simp only [hl6_1] at c14b0x)
    clear c14
    obtain ⟨y177, hy177⟩ : ∃ y_ : List Int, y_ = ((rd_L4 y175 x22_1).set (x22_1 : Int).toNat 0) := ⟨_, rfl⟩
    replace H : (bounds_closed.l0 k1 a0 l1 (y175.set (x22_1 : Int).toNat y177) (y166.length : Int) (wrap64 (x22_1 + 1))) = some (r1, r2) := by first | (rw [hy177]; with_reducible exact H) | (have H2_ := (Option.bind_some _ _).symm.trans H; rw [hy177]; with_reducible exact H2_) | (have H2_ := (Option.bind_some _ _).symm.trans H; with_reducible exact H2_) | with_reducible exact H | (rw [hy177]; exact H) | exact H
    have Ny177 := Aside0.mk hy177
    clear hy177
    obtain ⟨y179, hy179⟩ : ∃ y_ : List (List Int), y_ = (y175.set (x22_1 : Int).toNat y177) := ⟨_, rfl⟩
    replace H : (bounds_closed.l0 k1 a0 l1 y179 (y166.length : Int) (wrap64 (x22_1 + 1))) = some (r1, r2) := by first | (rw [hy179]; with_reducible exact H) | (have H2_ := (Option.bind_some _ _).symm.trans H; rw [hy179]; with_reducible exact H2_) | (have H2_ := (Option.bind_some _ _).symm.trans H; with_reducible exact H2_) | with_reducible exact H | (rw [hy179]; exact H) | exact H
    have Ny179 := Aside0.mk hy179
    clear hy179
    have H' := Aside0.mk H
    clear H
    go_wp2_with (first | ((with_reducible refine gate_dst (N := 27) rfl ?_); refine Kd.R_lit (Kd.int .i64) _ 3 ?hg (N := 27) ?hd (xs := ([1099511627776] : List Int)) (inner := [.int .i64 1099511627776]) (ok := fun _ => True) (okp := fun _ => True) ?hr ?hp (fun _ hk => hk) trivial (Below.refl _ _) (Nat.le_refl _) (by simp) ?_; (case hd => rfl); (case hg => rfl); (case hr => first | (go_simp; done) | (go_simp; rfl)); (case hp => exact (Reps.one (show Kd.M (Kd.int .i64) _ _ _ 1099511627776 [.int .i64 1099511627776] from rfl) (Reps.none _ _))); intro v170 w16 ho17 hb hg_ hnew_; clear hg_ hnew_; (first | rw [← Ny169.out] at ho17 | (simp only [Int.reduceToNat] at ho17; rw [← Ny169.out] at ho17)); have n0_ := Aside0.mk (Kd.S_elder' (by (with_reducible repeat (first | apply Kd.S_alloc | apply Kd.S_drewN | apply Kd.S_drew)); exact HO_6.out) (Kd.R_base ho17) hb); have n1_ := Aside0.mk (Kd.R_lower ho17 (below_size (by repeat (first | (with_reducible first | exact HB.out | apply below_alloc | apply pw_below_drewN | apply below_drew1) | exact HB.out)))); have n2_ := Aside0.mk (below_step (by repeat (first | (with_reducible first | exact HB.out | apply below_alloc | apply pw_below_drewN | apply below_drew1) | exact HB.out)) hb); clear HO_6; clear HB; have HO_6 := n0_; have HO171 := n1_; have HB := n2_; clear n0_ n1_ n2_; clear hb ho17; obtain ⟨Ao18, co18, eo18⟩ := Kd.R_slice HO171.out; subst eo18) | ((with_reducible refine gate_callee (f := 46) rfl ?_); refine goesL_ (some 30) rfl rfl Try.func46 (by kernel_rfl) rfl #[.slice Ao18 y169.length co18, .int .i64 (wrap64 (a0 + 1))] rfl (by (try simp only [List.map_toArray, List.map_cons, List.map_nil]); first | done | rfl | (simp only [List.length_drop, List.length_take]; rfl)) ?_; (with_reducible refine (slices_Repeat_int_int.calls _ _ y169 (wrap64 (a0 + 1)) t172 _ ?side1 ?side2 A10.out).mono ?_); (case side1 => repeat (first | exact (Kd.R_reads' HO171.out).2.2 | (with_reducible refine Kd.C_alloc ?_ _) | (with_reducible refine Kd.C_drewN ?_ _) | (with_reducible refine Kd.C_drew ?_))); (case side2 => exact (Kd.R_reads' HO171.out).2.1); rintro e w19 ⟨v173, rfl, ho0, hb⟩; refine ⟨_, rfl, ?_⟩; obtain ⟨Ao9173, co9173, eo9173⟩ := Kd.R_slice ho0; subst eo9173; have n0_ := Aside0.mk (Kd.S_elder' (by (with_reducible repeat (first | apply Kd.S_alloc | apply Kd.S_drewN | apply Kd.S_drew)); exact HO_6.out) (Kd.R_base ho0) hb); have n1_ := Aside0.mk (Kd.R_elder' (by (with_reducible repeat (first | apply Kd.R_alloc | apply Kd.R_drewN | apply Kd.R_drew)); exact HO171.out) (Kd.R_base ho0) hb); have n2_ := Aside0.mk (Kd.R_lower (Kd.R_new' ho0 (Kd.R_lt (by (with_reducible repeat (first | apply Kd.R_alloc | apply Kd.R_drewN | apply Kd.R_drew)); exact HO171.out))) (below_size (by repeat (first | (with_reducible first | exact HB.out | apply below_alloc | apply pw_below_drewN | apply below_drew1) | exact HB.out)))); have n3_ := Aside0.mk (below_step (by repeat (first | (with_reducible first | exact HB.out | apply below_alloc | apply pw_below_drewN | apply below_drew1) | exact HB.out)) hb); clear HO_6; clear HO171; clear HB; have HO_6 := n0_; have HO171 := n1_; have HO174 := n2_; have HB := n3_; clear n0_ n1_ n2_ n3_; (try clear hb); (try clear hb2); (try clear hk); (try clear hi); (try clear ho0); have p13 : 0 ≤ (x22_1 : Int) := of_decide_eq_true (by with_reducible assumption); have q13 : (x22_1 : Int) < ((x6_1.length : Int) : Int) := of_decide_eq_true (by with_reducible assumption); obtain ⟨go13, co13, eo13, gb13, gl13, cl13, HG13⟩ := Kd.S_form HO_6.out (by omega); (first | cases eo13 | (injection eo13 with ea_ en_ ec_; (first | subst ea_ | (injection ea_ with ea_; subst ea_)); subst ec_; clear en_)); have GB13 := Aside0.mk gb13; have GG13 := Aside0.mk HG13; clear gb13 gl13 HG13; obtain ⟨_, ce13, hcl13, hM13, hcc13, hfr13, _, _⟩ := Kd.S_elem HO_6.out [] (x22_1 : Int) p13 q13; obtain ⟨ve13_0, rfl, ge13_0⟩ := hM13; have hx13_0 := hcc13 0 _ rfl; have hf13_0 := hfr13 0; (try simp only [show ((Kd.slice 3 (Kd.int .i64))).sz = 1 from rfl, Nat.mul_one, Nat.add_zero] at hx13_0); (try simp only [show ((Kd.slice 3 (Kd.int .i64))).sz = 1 from rfl, Nat.mul_one, Nat.add_zero] at hf13_0); (try clear hM13); clear hcl13 hcc13 hfr13; replace p13 := eq_true p13; replace q13 := eq_true q13; have n_ := Aside0.mk (Kd.S_mono (ok' := (fun k_ => some k_ ≠ (.slice Ao18 y169.length co18 : Value).ownBlock ∧ some k_ ≠ ((.slice Ao9173 t172.length co9173 : Value) : Value).ownBlock)) HO_6.out (fun k_ hk => ⟨hk.1.2, hk.2⟩)); clear HO_6; have HO_6 := n_; clear n_; have HX20 := Aside0.mk (show Kd.S (Kd.slice 3 (Kd.int .i64)) 22 w19 w.heap.size (fun k_ => ((fun k_ => some k_ ≠ (.slice Ao18 y169.length co18 : Value).ownBlock)) k_ ∧ ¬ ((fun k_ => some k_ = ((.slice Ao9173 t172.length co9173 : Value) : Value).ownBlock)) k_) (.slice (some ⟨go13, 0, none⟩) x6_1.length co8) x6_1 from (by (with_reducible repeat (first | apply Kd.S_alloc | apply Kd.S_drewN | apply Kd.S_drew)); exact Kd.S_mono HO_6.out (fun k_ hk => ⟨hk.1, fun e_ => hk.2 e_⟩))); obtain ⟨oki20, ce20, hcl20, hM20, hcc20, hfr20, hoki20, hH20⟩ := Kd.S_elem HX20.out [] (x22_1 : Int) (of_decide_eq_true (by with_reducible assumption)) (by have h_ : (x22_1 : Int) < ((x6_1.length : Int) : Int) := of_decide_eq_true (by with_reducible assumption); first | exact h_ | (have e_ := (Kd.S_reads' HO_6.out).1; omega) | simpa using h_); obtain ⟨ve20_0, rfl, ge20_0⟩ := hM20; have HP20 := Kd.S_seg hH20 (of_decide_eq_true (by with_reducible assumption)) (by have h_ : (x22_1 : Int) < ((x6_1.length : Int) : Int) := of_decide_eq_true (by with_reducible assumption); first | exact h_ | (have e_ := (Kd.S_reads' HO_6.out).1; omega) | simpa using h_) (seg := [(.slice Ao9173 t172.length co9173 : Value)]) (j := 0) (show 1 ≤ 1 from by decide) (x' := t172) (Kd.M_row (Kd.R_mono (Kd.R_tight rfl (Kd.R_mono (ok' := fun k_ => ((fun k_ => some k_ ≠ (.slice Ao18 y169.length co18 : Value).ownBlock)) k_ ∧ k_ ≠ go13) (Kd.R_apart' (HO174.out) (Kd.S_typed HO_6.out) (by decide)) (fun k_ hk => ⟨hk.1.2, fun e_ => (hk.2) (by rw [e_]; rfl)⟩))) (fun _ h_ => Or.inr (h_)))) (fun _ hk => hk) (fun k_ hk_ => ((Kd.R_mono (ok' := fun k_ => ((fun k_ => some k_ ≠ (.slice Ao18 y169.length co18 : Value).ownBlock)) k_ ∧ k_ ≠ go13) (Kd.R_apart' (HO174.out) (Kd.S_typed HO_6.out) (by decide)) (fun k_ hk => ⟨hk.1.2, fun e_ => (hk.2) (by rw [e_]; rfl)⟩))).1 k_ hk_.symm); have hx20_0 := hcc20 0 _ rfl; (try simp only [show ((Kd.slice 3 (Kd.int .i64))).sz = 1 from rfl, Nat.mul_one, Nat.add_zero] at hx20_0); have hf20_0 := hfr20 0; (try simp only [show ((Kd.slice 3 (Kd.int .i64))).sz = 1 from rfl, Nat.mul_one, Nat.add_zero] at hf20_0); (try clear hM20); clear hcl20 hcc20 hfr20 hoki20 hH20; (try simp only [show ((Kd.slice 3 (Kd.int .i64))).sz = 1 from rfl, Nat.mul_one, Nat.add_zero] at HP20)) | ((with_reducible refine gate_store (t := 22) (p := 31) rfl ?_); refine store_event (t := 22) (p := 31) (v := ?vo_w21) (w1 := (w19.setCell ⟨go13, (x22_1 : Int).toNat, none⟩ ((.slice Ao9173 t172.length co9173 : Value)))) ?hg ?ho ?hn ?hr ?_; (case ho => rfl); (case hg => rfl); (case hn => rfl); (case hr => first | (go_simp; done) | (go_simp; rfl)); intro w21 hw; have hg : w19.grownBy w21 (some go13) := (by rw [hw]; exact HP20.2); have hp_ : Kd.S (Kd.slice 3 (Kd.int .i64)) 22 w21 w.heap.size (fun k_ => some k_ ≠ (.slice Ao18 y169.length co18 : Value).ownBlock) (.slice (some ⟨go13, 0, none⟩) x6_1.length co8) y175 := (by rw [hw, Ny175.out]; exact HP20.1); clear HP20; have n0_ := Aside0.mk (hp_); have n1_ := Aside0.mk (Kd.R_over' (v := (.slice (some ⟨go13, 0, none⟩) x6_1.length co8)) (by (with_reducible repeat (first | apply Kd.R_alloc | apply Kd.R_drewN | apply Kd.R_drew)); exact HO171.out) (Kd.S_typed HO_6.out) (by decide) hg); have n2_ := Aside0.mk ((by rw [hw]; exact below_set (HB.out) GB13.out : Below w.heap.size w w21)); clear HO_6; clear HO171; clear HB; clear HO174; have HO_6 := n0_; have HO171 := n1_; have HB := n2_; clear n0_ n1_ n2_; clear hg hw hp_; have p176 : 0 ≤ (x22_1 : Int) := of_decide_eq_true (by with_reducible assumption); have q176 : x22_1 < (y175.length : Int) := (by have h_ : (x22_1 : Int) < ((x6_1.length : Int) : Int) := of_decide_eq_true (by with_reducible assumption); first | (have e_ := (Kd.S_reads' HO_6.out).1; omega) | simpa only [Ny175.out, List.length_set] using h_); have ql176 : ((x22_1 : Int) < ((x6_1.length : Int) : Int)) = True := eq_true (of_decide_eq_true (by with_reducible assumption)); obtain ⟨ad176, A176_0, c176_0, e176, hx176_0, hl176_0, hi176_0⟩ := at_L4 (Kd.S_reads' HO_6.out).2.2 x22_1 p176 q176; obtain rfl : (⟨go13, 0, none⟩ : Addr) = ad176 := (by injection e176); obtain ⟨ce176, hce176, hMe176, hcc176⟩ := Kd.S_get HO_6.out [] x22_1 p176 (by first | exact q176 | exact of_decide_eq_true (by with_reducible assumption) | (have e_ := (Kd.S_reads' HO_6.out).1; omega)); obtain ⟨ve176_0, rfl, ge176_0⟩ := hMe176; have hv176_0 := hcc176 0 _ rfl; rw [Nat.add_zero, show ((Kd.slice 3 (Kd.int .i64))).sz = 1 from rfl, Nat.mul_one] at hv176_0; replace hv176_0 := Option.some.inj (hv176_0.symm.trans hx176_0); rw [hv176_0] at ge176_0; have HL176_0 := Aside0.mk (show Kd.R (Kd.int .i64) 3 _ _ _ _ (rd_L4 y175 x22_1) from ge176_0); clear hv176_0 ge176_0; have HX176_0 := Aside0.mk hx176_0; clear hcc176 hce176; (first | simp only [add_plain] at hx176_0 | simp only [add_at] at hx176_0 | simp only [Addr.add, Nat.zero_add] at hx176_0 | skip); have HR176_0 := Aside0.mk hi176_0; have HC176_0 := Aside0.mk hl176_0; clear hi176_0 hl176_0; replace p176 := eq_true p176; replace q176 := eq_true q176; have p15 : 0 ≤ (x22_1 : Int) := of_decide_eq_true (by with_reducible assumption); have q15 : (x22_1 : Int) < (((rd_L4 y175 x22_1).length : Int) : Int) := of_decide_eq_true (by with_reducible assumption); obtain ⟨go15, co15, eo15, gb15, gl15, cl15, HG15⟩ := Kd.R_form HL176_0.out (by omega); (first | cases eo15 | (injection eo15 with ea_ en_ ec_; (first | subst ea_ | (injection ea_ with ea_; subst ea_)); subst ec_; clear en_)); have GB15 := Aside0.mk gb15; have GG15 := Aside0.mk HG15; clear gb15 gl15 HG15; obtain ⟨hx15_0, hf15_0⟩ := Kd.R_celln 0 HL176_0.out (x22_1 : Int) p15 q15; replace p15 := eq_true p15; replace q15 := eq_true q15; have hq22 : (x22_1 : Int) < (y175.length : Int) := (by have h_ : (x22_1 : Int) < ((x6_1.length : Int) : Int) := of_decide_eq_true (by with_reducible assumption); first | exact h_ | (have e_ := (Kd.S_reads' HO_6.out).1; omega) | simpa only [Ny175.out, List.length_set] using h_); obtain ⟨oki22, ce22, hcl22, hM22, hcc22, hok22, hbk22⟩ := Kd.S_borrow HO_6.out [] (x22_1 : Int) (of_decide_eq_true (by with_reducible assumption)) (by first | exact hq22 | (have e_ := (Kd.S_reads' HO_6.out).1; omega)); obtain ⟨ve22_0, rfl, ge22_0⟩ := hM22; have hv22 := hcc22 0 _ rfl; rw [Nat.add_zero, show ((Kd.slice 3 (Kd.int .i64))).sz = 1 from rfl, Nat.mul_one] at hv22; replace hv22 := Option.some.inj (hv22.symm.trans HX176_0.out); subst hv22; clear hcc22 hcl22; replace ge22_0 := (show Kd.R (Kd.int .i64) 3 _ _ _ _ (rd_L4 y175 x22_1) from ge22_0); have HP22 := Kd.R_putg ge22_0 (x22_1 : Int) 0) | ((with_reducible refine gate_store (t := 3) (p := 37) rfl ?_); refine store_event (t := 3) (p := 37) (v := ?vo_w23) (w1 := (w21.setCell ⟨go15, (x22_1 : Int).toNat, none⟩ (.int .i64 0))) ?hg ?ho ?hn ?hr ?_; (case ho => rfl); (case hg => rfl); (case hn => rfl); (case hr => first | (go_simp; done) | (go_simp; rfl)); intro w23 hw; have hg : w21.grownBy w23 (some go15) := (by rw [hw]; exact HP22.2); have hz_ : Kd.R (Kd.int .i64) 3 w23 w.heap.size oki22 (.slice (some ⟨go15, 0, none⟩) (rd_L4 y175 x22_1).length c176_0) y177 := (by rw [hw, Ny177.out]; exact HP22.1); have hp_ : Kd.S (Kd.slice 3 (Kd.int .i64)) 22 w23 w.heap.size (fun k_ => some k_ ≠ (.slice Ao18 y169.length co18 : Value).ownBlock) (.slice (some ⟨go13, 0, none⟩) x6_1.length co8) y179 := (by rw [Ny179.out]; exact hbk22 hg (fun k_ e_ => by injection e_ with e_; subst e_; exact ge22_0.1 _ rfl) (Kd.M_row hz_)); have hm_ := Kd.R_mono hz_ hok22; clear HP22 hbk22; have n0_ := Aside0.mk (hp_); have n1_ := Aside0.mk (Kd.R_grown1 (by (with_reducible repeat (first | apply Kd.R_alloc | apply Kd.R_drewN | apply Kd.R_drew)); exact HO171.out) rfl hg ((HL176_0.out.1 _ rfl).1)); have n2_ := Aside0.mk ((by rw [hw]; exact below_set (HB.out) GB15.out : Below w.heap.size w w23)); have n3_ := Aside0.mk (hm_); have n4_ := Aside0.mk ((Kd.R_reads' hm_).2.1); clear HO_6; clear HO171; clear HB; clear HL176_0; have HO_6 := n0_; have HO171 := n1_; have HB := n2_; have HL204 := n3_; have HC178 := n4_; clear n0_ n1_ n2_ n3_ n4_; clear hg hw hp_ hz_ hm_ hok22))
    (try simp only [← hl6_1])
    go_roundg k1
    case measure => have := HK1.out; omega
    case rel => exact ⟨(y179), (wrap64 (x22_1 + 1)), (by first | rfl | (simp; done) | (simp [*]; done)), H', ⟨by have := HK1.out; omega⟩, ⟨by (try simp only [hl6_1]); (with_reducible repeat (first | apply Kd.S_alloc | apply Kd.S_drewN | apply Kd.S_drew)); exact Kd.S_mono HO_6.out (fun _ hk => trivial)⟩, ⟨by repeat (first | (with_reducible first | exact HB.out | apply below_alloc | apply pw_below_drewN | apply below_drew1) | exact HB.out)⟩⟩
   ·rw [if_neg c9] at H
    have c9b0 : decide (x22_1 < (y166.length : Int)) = false := decide_eq_false c9
    have c9b0x := c9b0; (try simp only [hl6_1] at c9b0x)
    clear c9
    have H' := Aside0.mk H
    clear H
    go_wp2
    go_loopg [41] k1 (fun kq v41 w' => ∃ (x6_2 : List (List Int)) (x41_2 : Int), v41 = .int .i64 x41_2 ∧ Aside0 (bounds_closed.l1 kq a0 x6_2 l1 (l1.length : Int) x41_2 = some (r1, r2)) ∧ Aside0 (kq ≤ k1) ∧ Aside0 (Kd.S (Kd.slice 3 (Kd.int .i64)) 22 w' w.heap.size (fun _ => True) (.slice Ao8 x6_1.length co8) x6_2) ∧ Aside0 (Below w.heap.size w w'))
    case atStart => exact ⟨(x6_1), (0), (by first | rfl | (simp; done) | (simp [*]; done)), H', ⟨Nat.le_refl _⟩, ⟨by (try simp only [hl6_1]); (with_reducible repeat (first | apply Kd.S_alloc | apply Kd.S_drewN | apply Kd.S_drew)); exact HO_6.out⟩, ⟨by repeat (first | (with_reducible first | exact HB.out | apply below_alloc | apply pw_below_drewN | apply below_drew1) | exact HB.out)⟩⟩
    case round =>
     clear H'
     try clear c1
     try clear p1
     try clear q1
     try clear hx1
     try clear c2
     try clear p2
     try clear q2
     try clear hx2
     try clear hf2
     try clear c4
     try clear c4b0
     try clear c4b1
     try clear c5
     try clear c5b0
     try clear c5b1
     try clear p6
     try clear c9
     try clear c9b0
     try clear c11
     try clear c11b0
     try clear c12
     try clear c12b0
     try clear c13
     try clear p13
     try clear q13
     try clear hx13
     try clear hf13
     try clear c14
     try clear c14b0
     try clear p15
     try clear q15
     try clear hx15
     try clear hf15
     try clear c17
     try clear p17
     try clear q17
     try clear hx17
     try clear c20
     try clear hx20
     try clear hf20
     try clear c22
     try clear q22
     try clear hx13_0
     try clear hx15_0
     try clear hx176_0
     try clear hx20_0
     try clear p13
     try clear p15
     try clear p176
     try clear p2
     try clear p6
     try clear q13
     try clear q15
     try clear q176
     (try clear hji3_)
     (try clear hji3w)
     (try clear hji3)
     obtain ⟨x6_2, x41_2, rfl, HA, HK2, HO_6, HB⟩ := hrel
     have hl6_2 := (Kd.S_reads' HO_6.out).1
     rw [hl6_2] at HO_6
     (try simp only [hl6_2])
     cases gk with
     | zero => exact absurd HA.out (by simp [bounds_closed.l1])
     | succ k2 =>
      have H := HA.out
      clear HA
      simp only [bounds_closed.l1] at H
      by_cases c24 : x41_2 < (l1.length : Int)
      ·rw [if_pos c24] at H
       have c24b0 : decide (x41_2 < (l1.length : Int)) = true := decide_eq_true c24
       have c24b0x := c24b0; (try simp only [hl6_1] at c24b0x); (try simp only [hl6_2] at c24b0x)
       clear c24
       by_cases c25 : 0 ≤ x41_2
       case neg => rw [if_neg c25] at H; exact absurd H (by simp)
       rw [if_pos c25] at H
       have c25b0 : decide (0 ≤ x41_2) = true := decide_eq_true c25
       clear c25
       by_cases c26 : x41_2 < (l1.length : Int)
       case neg => rw [if_neg c26] at H; exact absurd H (by simp)
       rw [if_pos c26] at H
       have c26b0 : decide (x41_2 < (l1.length : Int)) = true := decide_eq_true c26
       have c26b0x := c26b0; (try simp only [hl6_1] at c26b0x); (try simp only [hl6_2] at c26b0x)
       clear c26
       by_cases c27 : 0 ≤ ((rd_T78 l1 x41_2).f0)
       case neg => rw [if_neg c27] at H; exact absurd H (by simp)
       rw [if_pos c27] at H
       have c27b0 : decide (0 ≤ ((rd_T78 l1 x41_2).f0)) = true := decide_eq_true c27
       clear c27
       by_cases c28 : ((rd_T78 l1 x41_2).f0) < (x6_2.length : Int)
       case neg => rw [if_neg c28] at H; exact absurd H (by simp)
       rw [if_pos c28] at H
       have c28b0 : decide (((rd_T78 l1 x41_2).f0) < (x6_2.length : Int)) = true := decide_eq_true c28
       have c28b0x := c28b0; (try simp only [hl6_1] at c28b0x); (try simp only [hl6_2] at c28b0x)
       clear c28
       by_cases c29 : 0 ≤ ((rd_T78 l1 x41_2).f1)
       case neg => rw [if_neg c29] at H; exact absurd H (by simp)
       rw [if_pos c29] at H
       have c29b0 : decide (0 ≤ ((rd_T78 l1 x41_2).f1)) = true := decide_eq_true c29
       clear c29
       by_cases c30 : ((rd_T78 l1 x41_2).f1) < ((rd_L4 x6_2 ((rd_T78 l1 x41_2).f0)).length : Int)
       case neg => rw [if_neg c30] at H; exact absurd H (by simp)
       rw [if_pos c30] at H
       have c30b0 : decide (((rd_T78 l1 x41_2).f1) < ((rd_L4 x6_2 ((rd_T78 l1 x41_2).f0)).length : Int)) = true := decide_eq_true c30
       have c30b0x := c30b0; (try simp only [hl6_1] at c30b0x); (try simp only [hl6_2] at c30b0x)
       clear c30
       obtain ⟨ji31, hji31⟩ : ∃ j_ : Int, (mn (rd (rd_L4 x6_2 ((rd_T78 l1 x41_2).f0)) ((rd_T78 l1 x41_2).f1)) ((rd_T78 l1 x41_2).f2)) = j_ := ⟨_, rfl⟩
       replace H : (bounds_closed.l1 k2 a0 (x6_2.set (((rd_T78 l1 x41_2).f0) : Int).toNat ((rd_L4 x6_2 ((rd_T78 l1 x41_2).f0)).set (((rd_T78 l1 x41_2).f1) : Int).toNat (ji31))) l1 (l1.length : Int) (wrap64 (x41_2 + 1))) = some (r1, r2) := by first | (rw [hji31] at H; exact H) | (simp only [hji31] at H ⊢; exact H)
       have hji31_ : (if ((rd_T78 l1 x41_2).f2) < (rd (rd_L4 x6_2 ((rd_T78 l1 x41_2).f0)) ((rd_T78 l1 x41_2).f1)) then ((rd_T78 l1 x41_2).f2) else (rd (rd_L4 x6_2 ((rd_T78 l1 x41_2).f0)) ((rd_T78 l1 x41_2).f1))) = ji31 := hji31
       obtain ⟨y185, hy185⟩ : ∃ y_ : List Int, y_ = ((rd_L4 x6_2 ((rd_T78 l1 x41_2).f0)).set (((rd_T78 l1 x41_2).f1) : Int).toNat (ji31)) := ⟨_, rfl⟩
       replace H : (bounds_closed.l1 k2 a0 (x6_2.set (((rd_T78 l1 x41_2).f0) : Int).toNat y185) l1 (l1.length : Int) (wrap64 (x41_2 + 1))) = some (r1, r2) := by first | (rw [hy185]; with_reducible exact H) | (have H2_ := (Option.bind_some _ _).symm.trans H; rw [hy185]; with_reducible exact H2_) | (have H2_ := (Option.bind_some _ _).symm.trans H; with_reducible exact H2_) | with_reducible exact H | (rw [hy185]; exact H) | exact H
       have Ny185 := Aside0.mk hy185
       clear hy185
       obtain ⟨y187, hy187⟩ : ∃ y_ : List (List Int), y_ = (x6_2.set (((rd_T78 l1 x41_2).f0) : Int).toNat y185) := ⟨_, rfl⟩
       replace H : (bounds_closed.l1 k2 a0 y187 l1 (l1.length : Int) (wrap64 (x41_2 + 1))) = some (r1, r2) := by first | (rw [hy187]; with_reducible exact H) | (have H2_ := (Option.bind_some _ _).symm.trans H; rw [hy187]; with_reducible exact H2_) | (have H2_ := (Option.bind_some _ _).symm.trans H; with_reducible exact H2_) | with_reducible exact H | (rw [hy187]; exact H) | exact H
       have Ny187 := Aside0.mk hy187
       clear hy187
       have H' := Aside0.mk H
       clear H
       have p180 : 0 ≤ (x41_2 : Int) := of_decide_eq_true (by with_reducible assumption)
       have q180 : x41_2 < (l1.length : Int) := of_decide_eq_true (by with_reducible assumption)
       obtain ⟨ad180, e180, hx180_0, hx180_1, hx180_2⟩ := at_T78 HR1.out x41_2 p180 q180
       cases e180
       replace hx180_0 := (HB.out.cell (World.block_lt_of_cell? w _ hx180_0)).trans hx180_0
       replace hx180_1 := (HB.out.cell (World.block_lt_of_cell? w _ hx180_1)).trans hx180_1
       replace hx180_2 := (HB.out.cell (World.block_lt_of_cell? w _ hx180_2)).trans hx180_2
       replace p180 := eq_true p180
       replace q180 := eq_true q180
       try go_wp2_with (first | ((with_reducible refine gate_dst (N := 9) rfl ?_); refine box_event ?hg (N := 9) ?hd (cs := #[.int .i64 0, .int .i64 0, .int .i64 0]) (t := 78) ?hr ?_; (case hd => rfl); (case hg => rfl); (case hr => first | (go_simp; done) | (go_simp; rfl)); intro gb181 hg w33 hbox hb; have n0_ := Aside0.mk (Kd.S_below (by (with_reducible repeat (first | apply Kd.S_alloc | apply Kd.S_drewN | apply Kd.S_drew)); exact HO_6.out) hb); have n1_ := Aside0.mk (below_step (by repeat (first | (with_reducible first | exact HB.out | apply below_alloc | apply pw_below_drewN | apply below_drew1) | exact HB.out)) hb); have n2_ := Aside0.mk (hbox); have n3_ := Aside0.mk ((by rw [hg]; exact (below_size (by repeat (first | (with_reducible first | exact HB.out | apply below_alloc | apply pw_below_drewN | apply below_drew1) | exact HB.out))) : w.heap.size ≤ gb181)); have n4_ := Aside0.mk ((by rw [hg]; exact (below_size (by repeat (first | (with_reducible first | exact HB.out | apply below_alloc | apply pw_below_drewN | apply below_drew1) | exact HB.out))) : w.heap.size ≤ gb181)); clear HO_6; clear HB; have HO_6 := n0_; have HB := n1_; have BK181 := n2_; have GW181 := n3_; have GE181 := n4_; clear n0_ n1_ n2_ n3_ n4_; clear hb hbox hg; have hcz34_0 : w33.cell? ⟨gb181, 0, none⟩ = some (.int .i64 0) := (blk_cell BK181.out 0).trans rfl; have hcz34_1 : w33.cell? ⟨gb181, 1, none⟩ = some (.int .i64 0) := (blk_cell BK181.out 1).trans rfl; have hcz34_2 : w33.cell? ⟨gb181, 2, none⟩ = some (.int .i64 0) := (blk_cell BK181.out 2).trans rfl; have hfz34_0 := blk_frozen BK181.out 0; have hfz34_1 := blk_frozen BK181.out 1; have hfz34_2 := blk_frozen BK181.out 2))
       have n0_ : Aside0 (Kd.S (Kd.slice 3 (Kd.int .i64)) 22 (((w33.setCell ⟨gb181, 0, none⟩ (.int .i64 ((rd_T78 l1 x41_2).f0))).setCell ⟨gb181, 1, none⟩ (.int .i64 ((rd_T78 l1 x41_2).f1))).setCell ⟨gb181, 2, none⟩ (.int .i64 ((rd_T78 l1 x41_2).f2))) w.heap.size (fun _ => True) (.slice Ao8 x6_2.length co8) x6_2) := ⟨by (with_reducible repeat (first | apply Kd.S_alloc | apply Kd.S_drewN | apply Kd.S_drew)); exact Kd.S_mono (Kd.S_far (p := ⟨gb181, 2, none⟩) (Kd.S_far (p := ⟨gb181, 1, none⟩) (Kd.S_far (p := ⟨gb181, 0, none⟩) (Kd.S_types HO_6.out BK181.out (by decide)) (fun _ hk => hk.2) (.int .i64 ((rd_T78 l1 x41_2).f0))) (fun _ hk => hk.2) (.int .i64 ((rd_T78 l1 x41_2).f1))) (fun _ hk => hk.2) (.int .i64 ((rd_T78 l1 x41_2).f2))) (fun _ hk => trivial)⟩
       have n1_ : Aside0 ((((w33.setCell ⟨gb181, 0, none⟩ (.int .i64 ((rd_T78 l1 x41_2).f0))).setCell ⟨gb181, 1, none⟩ (.int .i64 ((rd_T78 l1 x41_2).f1))).setCell ⟨gb181, 2, none⟩ (.int .i64 ((rd_T78 l1 x41_2).f2))).heap[gb181]? = some (.cells #[.int .i64 ((rd_T78 l1 x41_2).f0), .int .i64 ((rd_T78 l1 x41_2).f1), .int .i64 ((rd_T78 l1 x41_2).f2)] 78 (0, 0))) := ⟨by (with_reducible repeat (first | refine blk_drewN ?_ _ | refine blk_drew ?_ | refine blk_alloc ?_ _)); refine blk_put (cs := #[.int .i64 ((rd_T78 l1 x41_2).f0), .int .i64 ((rd_T78 l1 x41_2).f1), .int .i64 0]) ?_ 2 _ rfl; (with_reducible repeat (first | refine blk_drewN ?_ _ | refine blk_drew ?_ | refine blk_alloc ?_ _)); refine blk_put (cs := #[.int .i64 ((rd_T78 l1 x41_2).f0), .int .i64 0, .int .i64 0]) ?_ 1 _ rfl; (with_reducible repeat (first | refine blk_drewN ?_ _ | refine blk_drew ?_ | refine blk_alloc ?_ _)); refine blk_put (cs := #[.int .i64 0, .int .i64 0, .int .i64 0]) ?_ 0 _ rfl; (with_reducible repeat (first | refine blk_drewN ?_ _ | refine blk_drew ?_ | refine blk_alloc ?_ _)); exact BK181.out⟩
       have n2_ : Aside0 (Below w.heap.size w (((w33.setCell ⟨gb181, 0, none⟩ (.int .i64 ((rd_T78 l1 x41_2).f0))).setCell ⟨gb181, 1, none⟩ (.int .i64 ((rd_T78 l1 x41_2).f1))).setCell ⟨gb181, 2, none⟩ (.int .i64 ((rd_T78 l1 x41_2).f2)))) := ⟨by repeat (first | (with_reducible first | exact HB.out | apply below_alloc | apply pw_below_drewN | apply below_drew1 | refine below_set ?_ GE181.out) | exact HB.out)⟩
       (try clear HO_6)
       (try clear BK181)
       (try clear HB)
       generalize (((w33.setCell ⟨gb181, 0, none⟩ (.int .i64 ((rd_T78 l1 x41_2).f0))).setCell ⟨gb181, 1, none⟩ (.int .i64 ((rd_T78 l1 x41_2).f1))).setCell ⟨gb181, 2, none⟩ (.int .i64 ((rd_T78 l1 x41_2).f2))) = w35 at n0_ n1_ n2_ ⊢
       have HO_6 := n0_
       have BK181 := n1_
       have HB := n2_
       clear n0_ n1_ n2_
       have n0_ := Aside0.mk (Kd.S_drew HO_6.out)
       have n1_ := Aside0.mk (blk_drew BK181.out)
       have n2_ := Aside0.mk (below_drew1 HB.out)
       clear HO_6
       clear BK181
       clear HB
       have HO_6 := n0_
       have BK181 := n1_
       have HB := n2_
       clear n0_ n1_ n2_
       have p182 : 0 ≤ (((rd_T78 l1 x41_2).f0) : Int) := of_decide_eq_true (by with_reducible assumption)
       have q182 : ((rd_T78 l1 x41_2).f0) < (x6_2.length : Int) := of_decide_eq_true (by with_reducible assumption)
       obtain ⟨ad182, A182_0, c182_0, e182, hx182_0, hl182_0, hi182_0⟩ := at_L4 (Kd.S_reads' HO_6.out).2.2 ((rd_T78 l1 x41_2).f0) p182 q182
       cases e182
       obtain ⟨ce182, hce182, hMe182, hcc182⟩ := Kd.S_get HO_6.out [] ((rd_T78 l1 x41_2).f0) p182 (by first | exact q182 | exact of_decide_eq_true (by with_reducible assumption) | (have e_ := (Kd.S_reads' HO_6.out).1; omega))
       obtain ⟨ve182_0, rfl, ge182_0⟩ := hMe182
       have hv182_0 := hcc182 0 _ rfl
       rw [Nat.add_zero, show ((Kd.slice 3 (Kd.int .i64))).sz = 1 from rfl, Nat.mul_one] at hv182_0
       replace hv182_0 := Option.some.inj (hv182_0.symm.trans hx182_0)
       rw [hv182_0] at ge182_0
       have HL182_0 := Aside0.mk (show Kd.R (Kd.int .i64) 3 _ _ _ _ (rd_L4 x6_2 ((rd_T78 l1 x41_2).f0)) from ge182_0)
       clear hv182_0 ge182_0
       have HX182_0 := Aside0.mk hx182_0
       clear hcc182 hce182
       have HR182_0 := Aside0.mk hi182_0
       have HC182_0 := Aside0.mk hl182_0
       clear hi182_0 hl182_0
       replace p182 := eq_true p182
       replace q182 := eq_true q182
       have p183 : 0 ≤ (((rd_T78 l1 x41_2).f0) : Int) := of_decide_eq_true (by with_reducible assumption)
       have q183 : ((rd_T78 l1 x41_2).f0) < (x6_2.length : Int) := of_decide_eq_true (by with_reducible assumption)
       obtain ⟨ad183, A183_0, c183_0, e183, hx183_0, hl183_0, hi183_0⟩ := at_L4 (Kd.S_reads' HO_6.out).2.2 ((rd_T78 l1 x41_2).f0) p183 q183
       obtain rfl : ad182 = ad183 := (by injection e183)
       obtain ⟨ce183, hce183, hMe183, hcc183⟩ := Kd.S_get HO_6.out [] ((rd_T78 l1 x41_2).f0) p183 (by first | exact q183 | exact of_decide_eq_true (by with_reducible assumption) | (have e_ := (Kd.S_reads' HO_6.out).1; omega))
       obtain ⟨ve183_0, rfl, ge183_0⟩ := hMe183
       have hv183_0 := hcc183 0 _ rfl
       rw [Nat.add_zero, show ((Kd.slice 3 (Kd.int .i64))).sz = 1 from rfl, Nat.mul_one] at hv183_0
       replace hv183_0 := Option.some.inj (hv183_0.symm.trans hx183_0)
       rw [hv183_0] at ge183_0
       have HL183_0 := Aside0.mk (show Kd.R (Kd.int .i64) 3 _ _ _ _ (rd_L4 x6_2 ((rd_T78 l1 x41_2).f0)) from ge183_0)
       clear hv183_0 ge183_0
       have HX183_0 := Aside0.mk hx183_0
       clear hcc183 hce183
       have HR183_0 := Aside0.mk hi183_0
       have HC183_0 := Aside0.mk hl183_0
       clear hi183_0 hl183_0
       replace p183 := eq_true p183
       replace q183 := eq_true q183
       have ea_ := Option.some.inj (hx182_0.symm.trans hx183_0)
       injection ea_ with ea_ en_ ec_
       subst ea_
       subst ec_
       clear en_
       have p184 : 0 ≤ (((rd_T78 l1 x41_2).f1) : Int) := of_decide_eq_true (by with_reducible assumption)
       have q184 : ((rd_T78 l1 x41_2).f1) < ((rd_L4 x6_2 ((rd_T78 l1 x41_2).f0)).length : Int) := of_decide_eq_true (by with_reducible assumption)
       obtain ⟨ad184, e184, hx184_0⟩ := Kd.at_int (by repeat (first | (with_reducible exact HR183_0.out) | (with_reducible refine Kd.C_alloc ?_ _) | (with_reducible refine Kd.C_drewN ?_ _) | (with_reducible refine Kd.C_drew ?_) | exact HR183_0.out)) ((rd_T78 l1 x41_2).f1) p184 q184
       cases e184
       replace p184 := eq_true p184
       replace q184 := eq_true q184
       have p32 : 0 ≤ (((rd_T78 l1 x41_2).f1) : Int) := of_decide_eq_true (by with_reducible assumption)
       have q32 : (((rd_T78 l1 x41_2).f1) : Int) < (((rd_L4 x6_2 ((rd_T78 l1 x41_2).f0)).length : Int) : Int) := of_decide_eq_true (by with_reducible assumption)
       obtain ⟨go32, co32, eo32, gb32, gl32, cl32, HG32⟩ := Kd.R_form HL182_0.out (by omega)
       (first | cases eo32 | (injection eo32 with ea_ en_ ec_; (first | subst ea_ | (injection ea_ with ea_; subst ea_)); subst ec_; clear en_))
       have GB32 := Aside0.mk gb32
       have GG32 := Aside0.mk HG32
       clear gb32 gl32 HG32
       (first | simp only [add_plain] at hx184_0 | skip)
       obtain ⟨hx32_0, hf32_0⟩ := Kd.R_celln 0 HL182_0.out (((rd_T78 l1 x41_2).f1) : Int) p32 q32
       replace p32 := eq_true p32
       replace q32 := eq_true q32
       have hq37 : (((rd_T78 l1 x41_2).f0) : Int) < (x6_2.length : Int) := (by have h_ : (((rd_T78 l1 x41_2).f0) : Int) < ((x6_2.length : Int) : Int) := of_decide_eq_true (by with_reducible assumption); first | exact h_ | (have e_ := (Kd.S_reads' HO_6.out).1; omega) | simpa only [List.length_set, List.length_set] using h_)
       obtain ⟨oki37, ce37, hcl37, hM37, hcc37, hok37, hbk37⟩ := Kd.S_borrow HO_6.out [] (((rd_T78 l1 x41_2).f0) : Int) (of_decide_eq_true (by with_reducible assumption)) hq37
       obtain ⟨ve37_0, rfl, ge37_0⟩ := hM37
       have hv37 := hcc37 0 _ rfl
       rw [Nat.add_zero, show ((Kd.slice 3 (Kd.int .i64))).sz = 1 from rfl, Nat.mul_one] at hv37
       replace hv37 := Option.some.inj (hv37.symm.trans HX182_0.out)
       subst hv37
       clear hcc37 hcl37
       replace ge37_0 := (show Kd.R (Kd.int .i64) 3 _ _ _ _ (rd_L4 x6_2 ((rd_T78 l1 x41_2).f0)) from ge37_0)
       have HP37 := Kd.R_putg ge37_0 (((rd_T78 l1 x41_2).f1) : Int) ji31
       rw [← Ny185.out] at HP37
       have HS37 := hbk37 HP37.2 (fun k_ e_ => by injection e_ with e_; subst e_; exact ge37_0.1 _ rfl) (x' := y185) (Kd.M_row HP37.1)
       rw [← Ny187.out] at HS37
       have HQ37 := Aside0.mk HS37
       clear HP37 HS37 hbk37 hok37
       (first | simp only [add_plain] at hx184_0 | skip)
       refine start_ (n := 21) (S := fun w' => w'.cell? ⟨gb181, 0, none⟩ = some (.int .i64 ((rd_T78 l1 x41_2).f0)) ∧ w'.cell? ⟨gb181, 1, none⟩ = some (.int .i64 ((rd_T78 l1 x41_2).f1)) ∧ w'.cell? ⟨gb181, 2, none⟩ = some (.int .i64 ((rd_T78 l1 x41_2).f2)) ∧ w'.cell? (ad182.add (((rd_T78 l1 x41_2).f0)).toNat) = some (.slice (some ⟨go32, 0, none⟩) (rd_L4 x6_2 ((rd_T78 l1 x41_2).f0)).length c182_0) ∧ w'.cell? (ad182.add (((rd_T78 l1 x41_2).f0)).toNat) = some (.slice (some ⟨go32, 0, none⟩) (rd_L4 x6_2 ((rd_T78 l1 x41_2).f0)).length c182_0) ∧ w'.cell? ⟨go32, (((rd_T78 l1 x41_2).f1)).toNat, none⟩ = some (.int .i64 (rd (rd_L4 x6_2 ((rd_T78 l1 x41_2).f0)) ((rd_T78 l1 x41_2).f1)))) (ds := [20]) #[false, false, false, false, false, false, false, false, false, false, false, false, false, false, false, false, false, false, false, false, false] (by kernel_rfl) rfl rfl ⟨(blk_cell BK181.out 0).trans rfl, (blk_cell BK181.out 1).trans rfl, (blk_cell BK181.out 2).trans rfl, hx182_0, hx183_0, hx184_0⟩ (fun hHeld => ?_); refine with_tabW bounds_closed.tab11 bounds_closed.bits11 (fun HT_ HW_ => ?_)
       generalize w35.drew = w36 at HO_6 BK181 HB GG32 HL182_0 HL183_0 HQ37 HR182_0 HR183_0 HX182_0 HX183_0 hf32_0 hx182_0 hx183_0 hx184_0 hx32_0 hHeld ⊢
       refine pS_ 0 (some 45) rfl rfl HT_.out (by kernel_rfl) ?_ (fun _ _ _ h => h) (by rfl) ?_ ?_ ?_ ?_
       rotate_left
       ·intro w'
        go_simp
        with_reducible rfl
       rotate_left
       ·simp only [Act.put, spA]
        rfl
       refine pS_ 1 (some 46) rfl rfl HT_.out (by kernel_rfl) ?_ (fun _ _ _ h => h) (by rfl) ?_ ?_ ?_ ?_
       rotate_left
       ·intro w'
        go_simp
        with_reducible rfl
       rotate_left
       ·simp only [Act.put, spA]
        rfl
       refine pS_ 5 (some 50) rfl rfl HT_.out (by kernel_rfl) ?_ (fun _ _ _ h => h) (by rfl) ?_ ?_ ?_ ?_
       rotate_left
       ·intro w'
        go_simp
        with_reducible rfl
       rotate_left
       ·simp only [Act.put, spA]
        rfl
       refine pS_ 7 (some 52) rfl rfl HT_.out (by kernel_rfl) ?_ (fun _ _ _ h => h) (by rfl) ?_ ?_ ?_ ?_
       rotate_left
       ·intro w'
        go_simp
        with_reducible rfl
       rotate_left
       ·simp only [Act.put, spA]
        rfl
       refine pS_ 8 (some 53) rfl rfl HT_.out (by kernel_rfl) ?_ (fun _ _ _ h => h) (by rfl) ?_ ?_ ?_ ?_
       rotate_left
       ·intro w'
        go_simp
        with_reducible rfl
       rotate_left
       ·simp only [Act.put, spA]
        rfl
       refine pS_ 12 (some 57) rfl rfl HT_.out (by kernel_rfl) ?_ (fun _ _ _ h => h) (by rfl) ?_ ?_ ?_ ?_
       rotate_left
       ·intro w'
        go_simp
        with_reducible rfl
       rotate_left
       ·simp only [Act.put, spA]
        rfl
       refine pS_ 16 (some 61) rfl rfl HT_.out (by kernel_rfl) ?_ (fun _ _ _ h => h) (by rfl) ?_ ?_ ?_ ?_
       rotate_left
       ·intro w'
        go_simp
        with_reducible rfl
       rotate_left
       ·simp only [Act.put, spA]
        rfl
       refine take_ (i := 2) (N := some 47) (v := ?_) (a' := ?_) #[true, true, true, false, false, true, false, true, true, false, false, false, true, false, false, false, true, false, false, false, false] rfl rfl (take_ofW HT_.out HW_.out (by kernel_rfl)) (fun _ _ _ h => h) (Or.inl ⟨by rfl, ?_⟩) hHeld ?_ ?_
       rotate_left
       ·rintro w' ⟨s0, s1, s2, s3, s4, s5⟩
        go_simp
        with_reducible rfl
       rotate_left
       ·simp only [Act.put, spA]
        rfl
       refine pS_ 3 (some 48) rfl rfl HT_.out (by kernel_rfl) ?_ (fun _ _ _ h => h) (by rfl) ?_ ?_ ?_ ?_
       rotate_left
       ·intro w'
        go_simp
        with_reducible rfl
       rotate_left
       ·simp only [Act.put, spA]
        rfl
       refine take_ (i := 4) (N := some 49) (v := ?_) (a' := ?_) #[true, true, true, true, true, true, false, true, true, false, false, false, true, false, false, false, true, false, false, false, false] rfl rfl (take_ofW HT_.out HW_.out (by kernel_rfl)) (fun _ _ _ h => h) (Or.inl ⟨by rfl, ?_⟩) hHeld ?_ ?_
       rotate_left
       ·rintro w' ⟨s0, s1, s2, s3, s4, s5⟩
        go_simp
        with_reducible rfl
       rotate_left
       ·simp only [Act.put, spA]
        rfl
       refine take_ (i := 6) (N := some 51) (v := ?_) (a' := ?_) #[true, true, true, true, true, true, true, true, true, false, false, false, true, false, false, false, true, false, false, false, false] rfl rfl (take_ofW HT_.out HW_.out (by kernel_rfl)) (fun _ _ _ h => h) (Or.inl ⟨by rfl, ?_⟩) hHeld ?_ ?_
       rotate_left
       ·rintro w' ⟨s0, s1, s2, s3, s4, s5⟩
        go_simp
        with_reducible rfl
       rotate_left
       ·simp only [Act.put, spA]
        rfl
       refine take_ (i := 9) (N := some 54) (v := ?_) (a' := ?_) #[true, true, true, true, true, true, true, true, true, true, false, false, true, false, false, false, true, false, false, false, false] rfl rfl (take_ofW HT_.out HW_.out (by kernel_rfl)) (fun _ _ _ h => h) (Or.inl ⟨by rfl, ?_⟩) hHeld ?_ ?_
       rotate_left
       ·rintro w' ⟨s0, s1, s2, s3, s4, s5⟩
        go_simp
        with_reducible rfl
       rotate_left
       ·simp only [Act.put, spA]
        rfl
       refine pS_ 10 (some 55) rfl rfl HT_.out (by kernel_rfl) ?_ (fun _ _ _ h => h) (by rfl) ?_ ?_ ?_ ?_
       rotate_left
       ·intro w'
        go_simp
        with_reducible rfl
       rotate_left
       ·simp only [Act.put, spA]
        rfl
       refine take_ (i := 11) (N := some 56) (v := ?_) (a' := ?_) #[true, true, true, true, true, true, true, true, true, true, true, true, true, false, false, false, true, false, false, false, false] rfl rfl (take_ofW HT_.out HW_.out (by kernel_rfl)) (fun _ _ _ h => h) (Or.inl ⟨by rfl, ?_⟩) hHeld ?_ ?_
       rotate_left
       ·rintro w' ⟨s0, s1, s2, s3, s4, s5⟩
        go_simp
        with_reducible rfl
       rotate_left
       ·simp only [Act.put, spA]
        rfl
       refine take_ (i := 13) (N := some 58) (v := ?_) (a' := ?_) #[true, true, true, true, true, true, true, true, true, true, true, true, true, true, false, false, true, false, false, false, false] rfl rfl (take_ofW HT_.out HW_.out (by kernel_rfl)) (fun _ _ _ h => h) (Or.inl ⟨by rfl, ?_⟩) hHeld ?_ ?_
       rotate_left
       ·rintro w' ⟨s0, s1, s2, s3, s4, s5⟩
        go_simp
        with_reducible rfl
       rotate_left
       ·simp only [Act.put, spA]
        rfl
       refine pS_ 14 (some 59) rfl rfl HT_.out (by kernel_rfl) ?_ (fun _ _ _ h => h) (by rfl) ?_ ?_ ?_ ?_
       rotate_left
       ·intro w'
        go_simp
        with_reducible rfl
       rotate_left
       ·simp only [Act.put, spA]
        rfl
       refine take_ (i := 15) (N := some 60) (v := ?_) (a' := ?_) #[true, true, true, true, true, true, true, true, true, true, true, true, true, true, true, true, true, false, false, false, false] rfl rfl (take_ofW HT_.out HW_.out (by kernel_rfl)) (fun _ _ _ h => h) (Or.inl ⟨by rfl, ?_⟩) hHeld ?_ ?_
       rotate_left
       ·rintro w' ⟨s0, s1, s2, s3, s4, s5⟩
        go_simp
        with_reducible rfl
       rotate_left
       ·simp only [Act.put, spA]
        rfl
       refine take_ (i := 17) (N := some 62) (v := ?_) (a' := ?_) #[true, true, true, true, true, true, true, true, true, true, true, true, true, true, true, true, true, true, false, false, false] rfl rfl (take_ofW HT_.out HW_.out (by kernel_rfl)) (fun _ _ _ h => h) (Or.inl ⟨by rfl, ?_⟩) hHeld ?_ ?_
       rotate_left
       ·rintro w' ⟨s0, s1, s2, s3, s4, s5⟩
        go_simp
        with_reducible rfl
       rotate_left
       ·simp only [Act.put, spA]
        rfl
       refine pS_ 18 (some 63) rfl rfl HT_.out (by kernel_rfl) ?_ (fun _ _ _ h => h) (by rfl) ?_ ?_ ?_ ?_
       rotate_left
       ·intro w'
        go_simp
        with_reducible rfl
       rotate_left
       ·simp only [Act.put, spA]
        rfl
       refine pS_ 19 (some 64) rfl rfl HT_.out (by kernel_rfl) ?_ (fun _ _ _ h => h) (by rfl) ?_ ?_ ?_ ?_
       rotate_left
       ·intro w'
        go_simp
        with_reducible rfl
       rotate_left
       ·simp only [Act.put, spA]
        rfl
       refine last_ (i := 20) (N := none) #[true, true, true, true, true, true, true, true, true, true, true, true, true, true, true, true, true, true, true, true, true] rfl rfl (one_of HT_.out (by kernel_rfl)) (by decide) (fun K hK => ?_)
       refine skip_ (w1 := ?_) (by rfl) rfl ?_ ?_
       rotate_left
       ·go_simp
        rfl
       refine hK.out _ _ ?_
       clear hK K
       refine done_ (done_of HT_.out (by kernel_rfl)) ?_
       try go_wp2
       (try simp only [← hl6_2])
       go_roundg k2
       case measure => have := HK1.out; have := HK2.out; omega
       case rel => exact ⟨(y187), (wrap64 (x41_2 + 1)), (by first | rfl | (simp; done) | (simp [*]; done)), H', ⟨by have := HK1.out; have := HK2.out; omega⟩, ⟨by (try simp only [hl6_1]); (try simp only [hl6_2]); (with_reducible repeat (first | apply Kd.S_alloc | apply Kd.S_drewN | apply Kd.S_drew)); exact HQ37.out⟩, ⟨by repeat (first | (with_reducible first | exact HB.out | apply below_alloc | apply pw_below_drewN | apply below_drew1 | refine below_set ?_ GB32.out | refine below_set ?_ GE181.out) | exact HB.out)⟩⟩
      ·rw [if_neg c24] at H
       have c24b0 : decide (x41_2 < (l1.length : Int)) = false := decide_eq_false c24
       have c24b0x := c24b0; (try simp only [hl6_1] at c24b0x); (try simp only [hl6_2] at c24b0x)
       clear c24
       have H' := Aside0.mk H
       clear H
       go_wp2
       go_loopg [68] k2 (fun kq v68 w' => ∃ (x6_3 : List (List Int)) (x68_3 : Int), v68 = .int .i64 x68_3 ∧ Aside0 (bounds_closed.l2 kq a0 x6_3 (x6_2.length : Int) x68_3 = some (r1, r2)) ∧ Aside0 (kq ≤ k2) ∧ Aside0 (Kd.S (Kd.slice 3 (Kd.int .i64)) 22 w' w.heap.size (fun _ => True) (.slice Ao8 x6_2.length co8) x6_3) ∧ Aside0 (Below w.heap.size w w'))
       case atStart => exact ⟨(x6_2), (0), (by first | rfl | (simp; done) | (simp [*]; done)), H', ⟨Nat.le_refl _⟩, ⟨by (try simp only [hl6_1]); (try simp only [hl6_2]); (with_reducible repeat (first | apply Kd.S_alloc | apply Kd.S_drewN | apply Kd.S_drew)); exact HO_6.out⟩, ⟨by repeat (first | (with_reducible first | exact HB.out | apply below_alloc | apply pw_below_drewN | apply below_drew1) | exact HB.out)⟩⟩
       case round =>
        clear H'
        try clear c1
        try clear p1
        try clear q1
        try clear hx1
        try clear c2
        try clear p2
        try clear q2
        try clear hx2
        try clear hf2
        try clear c3
        try clear p3
        try clear q3
        try clear hx3
        try clear hf3
        try clear c4
        try clear c4b0
        try clear c4b1
        try clear c5
        try clear c5b0
        try clear c5b1
        try clear p6
        try clear c9
        try clear c9b0
        try clear c11
        try clear c11b0
        try clear c12
        try clear c12b0
        try clear c13
        try clear p13
        try clear q13
        try clear hx13
        try clear hf13
        try clear c14
        try clear c14b0
        try clear p15
        try clear q15
        try clear hx15
        try clear hf15
        try clear c17
        try clear p17
        try clear q17
        try clear hx17
        try clear c18
        try clear p18
        try clear q18
        try clear hx18
        try clear c20
        try clear hx20
        try clear hf20
        try clear c22
        try clear q22
        try clear c24
        try clear c24b0
        try clear c25
        try clear c25b0
        try clear c26
        try clear c26b0
        try clear c27
        try clear c27b0
        try clear c28
        try clear c28b0
        try clear c29
        try clear c29b0
        try clear c30
        try clear c30b0
        try clear p32
        try clear q32
        try clear hx32
        try clear hf32
        try clear c37
        try clear q37
        try clear hcz34_0
        try clear hcz34_1
        try clear hcz34_2
        try clear hfz34_0
        try clear hfz34_1
        try clear hfz34_2
        try clear hx13_0
        try clear hx15_0
        try clear hx176_0
        try clear hx180_0
        try clear hx180_1
        try clear hx180_2
        try clear hx182_0
        try clear hx183_0
        try clear hx184_0
        try clear hx20_0
        try clear hx32_0
        try clear p1
        try clear p13
        try clear p15
        try clear p17
        try clear p176
        try clear p180
        try clear p182
        try clear p183
        try clear p184
        try clear p2
        try clear p32
        try clear p6
        try clear q1
        try clear q13
        try clear q15
        try clear q17
        try clear q176
        try clear q180
        try clear q182
        try clear q183
        try clear q184
        try clear q2
        try clear q22
        try clear q32
        (try clear hji3_)
        (try clear hji3w)
        (try clear hji3)
        obtain ⟨x6_3, x68_3, rfl, HA, HK3, HO_6, HB⟩ := hrel
        have hl6_3 := (Kd.S_reads' HO_6.out).1
        rw [hl6_3] at HO_6
        (try simp only [hl6_3])
        cases gk with
        | zero => exact absurd HA.out (by simp [bounds_closed.l2])
        | succ k3 =>
         have H := HA.out
         clear HA
         simp only [bounds_closed.l2] at H
         by_cases c39 : x68_3 < (x6_2.length : Int)
         ·rw [if_pos c39] at H
          have c39b0 : decide (x68_3 < (x6_2.length : Int)) = true := decide_eq_true c39
          have c39b0x := c39b0; (try simp only [hl6_1] at c39b0x); (try simp only [hl6_2] at c39b0x); (try simp only [hl6_3] at c39b0x)
          clear c39
          obtain ⟨ji40, hji40⟩ : ∃ j_ : Int, (wrap64 (a0 + 1)) = j_ := ⟨_, rfl⟩
          replace H : (if 0 ≤ (ji40) then (if (ji40 : Int).toNat ≤ 35184372088832 then ((some (List.replicate (ji40 : Int).toNat 0 : List Int)).bind fun y188 => (if 0 ≤ x68_3 then (if x68_3 < (x6_3.length : Int) then (bounds_closed.l3 k3 a0 x6_3 x68_3 ((rd_L4 x6_3 x68_3).take (min (rd_L4 x6_3 x68_3).length y188.length) ++ y188.drop (min (rd_L4 x6_3 x68_3).length y188.length)) (x6_2.length : Int) x68_3 (x6_3.length : Int) 0) else (none)) else (none))) else (none)) else (none)) = some (r1, r2) := by first | (rw [hji40] at H; exact H) | (simp only [hji40] at H ⊢; exact H)
          have hji40w : (IntKind.i64.wrap (a0 + 1)) = ji40 := (i64_w _).trans hji40
          by_cases c41 : 0 ≤ (ji40)
          case neg => rw [if_neg c41] at H; exact absurd H (by simp)
          rw [if_pos c41] at H
          have c41b0 := eq_true c41
          have c41b1 : decide (0 ≤ (ji40)) = true := decide_eq_true c41
          clear c41
          by_cases c42 : (ji40 : Int).toNat ≤ 35184372088832
          case neg => rw [if_neg c42] at H; exact absurd H (by simp)
          rw [if_pos c42] at H
          have c42b0 := eq_true c42
          have c42b1 : decide ((ji40 : Int).toNat ≤ 35184372088832) = true := decide_eq_true c42
          clear c42
          obtain ⟨y188, hy188⟩ : ∃ y_ : List Int, y_ = (List.replicate (ji40 : Int).toNat 0) := ⟨_, rfl⟩
          replace H : (if 0 ≤ x68_3 then (if x68_3 < (x6_3.length : Int) then (bounds_closed.l3 k3 a0 x6_3 x68_3 ((rd_L4 x6_3 x68_3).take (min (rd_L4 x6_3 x68_3).length y188.length) ++ y188.drop (min (rd_L4 x6_3 x68_3).length y188.length)) (x6_2.length : Int) x68_3 (x6_3.length : Int) 0) else (none)) else (none)) = some (r1, r2) := by first | (rw [hy188]; with_reducible exact H) | (have H2_ := (Option.bind_some _ _).symm.trans H; rw [hy188]; with_reducible exact H2_) | (have H2_ := (Option.bind_some _ _).symm.trans H; with_reducible exact H2_) | with_reducible exact H | (rw [hy188]; exact H) | exact H
          have Ny188 := Aside0.mk hy188
          clear hy188
          by_cases c43 : 0 ≤ x68_3
          case neg => rw [if_neg c43] at H; exact absurd H (by simp)
          rw [if_pos c43] at H
          have c43b0 : decide (0 ≤ x68_3) = true := decide_eq_true c43
          clear c43
          by_cases c44 : x68_3 < (x6_3.length : Int)
          case neg => rw [if_neg c44] at H; exact absurd H (by simp)
          rw [if_pos c44] at H
          have c44b0 : decide (x68_3 < (x6_3.length : Int)) = true := decide_eq_true c44
          have c44b0x := c44b0; (try simp only [hl6_1] at c44b0x); (try simp only [hl6_2] at c44b0x); (try simp only [hl6_3] at c44b0x)
          clear c44
          obtain ⟨y192, hy192⟩ : ∃ y_ : List Int, y_ = ((rd_L4 x6_3 x68_3).take (min (rd_L4 x6_3 x68_3).length y188.length) ++ y188.drop (min (rd_L4 x6_3 x68_3).length y188.length)) := ⟨_, rfl⟩
          replace H : (bounds_closed.l3 k3 a0 x6_3 x68_3 y192 (x6_2.length : Int) x68_3 (x6_3.length : Int) 0) = some (r1, r2) := by first | (rw [hy192]; with_reducible exact H) | (have H2_ := (Option.bind_some _ _).symm.trans H; rw [hy192]; with_reducible exact H2_) | (have H2_ := (Option.bind_some _ _).symm.trans H; with_reducible exact H2_) | with_reducible exact H | (rw [hy192]; exact H) | exact H
          have Ny192 := Aside0.mk hy192
          clear hy192
          have H' := Aside0.mk H
          clear H
          go_wp2_with (first | ((with_reducible refine gate_dst (N := 73) rfl ?_); refine Kd.R_make (Kd.int .i64) _ 3 rfl (N := 73) rfl 22 _ _ rfl ji40 rfl rfl Try.underlying22 (.int .i64 0) 8 info3 rfl (by decide) (by omega) 0 (ok := fun _ => True) (okp := fun _ => True) rfl (fun _ hk => hk) trivial (of_decide_eq_true (by with_reducible assumption)) (Nat.le_trans (Nat.mul_le_mul_right _ (of_decide_eq_true (by with_reducible assumption) : ji40.toNat ≤ 35184372088832)) (by omega)) (Below.refl _ _) (Nat.le_refl _) ?_; intro v189 w45 ho46 hb hg_ hnew_; clear hg_ hnew_; (first | rw [← Ny188.out] at ho46 | (simp only [Int.reduceToNat] at ho46; rw [← Ny188.out] at ho46)); have n0_ := Aside0.mk (Kd.S_elder' (by (with_reducible repeat (first | apply Kd.S_alloc | apply Kd.S_drewN | apply Kd.S_drew)); exact HO_6.out) (Kd.R_base ho46) hb); have n1_ := Aside0.mk (Kd.R_lower ho46 (below_size (by repeat (first | (with_reducible first | exact HB.out | apply below_alloc | apply pw_below_drewN | apply below_drew1) | exact HB.out)))); have n2_ := Aside0.mk (below_step (by repeat (first | (with_reducible first | exact HB.out | apply below_alloc | apply pw_below_drewN | apply below_drew1) | exact HB.out)) hb); clear HO_6; clear HB; have HO_6 := n0_; have HO190 := n1_; have HB := n2_; clear n0_ n1_ n2_; clear hb ho46; have p191 : 0 ≤ (x68_3 : Int) := of_decide_eq_true (by with_reducible assumption); have q191 : x68_3 < (x6_3.length : Int) := of_decide_eq_true (by with_reducible assumption); obtain ⟨ad191, A191_0, c191_0, e191, hx191_0, hl191_0, hi191_0⟩ := at_L4 (Kd.S_reads' HO_6.out).2.2 x68_3 p191 q191; cases e191; obtain ⟨ce191, hce191, hMe191, hcc191⟩ := Kd.S_get HO_6.out [] x68_3 p191 (by first | exact q191 | exact of_decide_eq_true (by with_reducible assumption) | (have e_ := (Kd.S_reads' HO_6.out).1; omega)); obtain ⟨ve191_0, rfl, ge191_0⟩ := hMe191; have hv191_0 := hcc191 0 _ rfl; rw [Nat.add_zero, show ((Kd.slice 3 (Kd.int .i64))).sz = 1 from rfl, Nat.mul_one] at hv191_0; replace hv191_0 := Option.some.inj (hv191_0.symm.trans hx191_0); rw [hv191_0] at ge191_0; have HL191_0 := Aside0.mk (show Kd.R (Kd.int .i64) 3 _ _ _ _ (rd_L4 x6_3 x68_3) from ge191_0); clear hv191_0 ge191_0; have HX191_0 := Aside0.mk hx191_0; clear hcc191 hce191; have HR191_0 := Aside0.mk hi191_0; have HC191_0 := Aside0.mk hl191_0; clear hi191_0 hl191_0; replace p191 := eq_true p191; replace q191 := eq_true q191) | ((with_reducible refine gate_builtin (b := .copy) (xs := #[.tmp 74, .tmp 78]) rfl ?_); refine Kd.R_copy (enc := Value.int .i64) (h1 := fun _ => rfl) 0 (w0 := w) w.heap.size rfl (.tmp 74) (.tmp 78) 22 22 3 rfl Try.underlying22 (by kernel_rfl) v189 y188 (rd_L4 x6_3 x68_3) _ _ _ (fun _ => True) rfl rfl ?aO ?aR ?aB ?aS ?_; (case aO => exact (by (with_reducible repeat (first | apply Kd.R_alloc | apply Kd.R_drewN | apply Kd.R_drew)); exact HO190.out)); (case aR => repeat (first | exact (by repeat (first | (with_reducible exact HR191_0.out) | (with_reducible refine Kd.C_alloc ?_ _) | (with_reducible refine Kd.C_drewN ?_ _) | (with_reducible refine Kd.C_drew ?_) | exact HR191_0.out)) | (with_reducible refine Kd.C_alloc ?_ _) | (with_reducible refine Kd.C_drewN ?_ _) | (with_reducible refine Kd.C_drew ?_))); (case aB => exact (by repeat (first | (with_reducible first | exact HB.out | apply below_alloc | apply pw_below_drewN | apply below_drew1) | exact HB.out))); (case aS => exact (below_size (by repeat (first | (with_reducible first | exact HB.out | apply below_alloc | apply pw_below_drewN | apply below_drew1) | exact HB.out)))); intro w48 hp_ hb hg; rw [← Ny192.out] at hp_; have n0_ := Aside0.mk (Kd.S_after (v := v189) (v1 := v189) (ok := (fun _ => True)) (by (with_reducible repeat (first | apply Kd.S_alloc | apply Kd.S_drewN | apply Kd.S_drew)); exact HO_6.out) hg (.inl rfl)); have n1_ := Aside0.mk (hp_); have n2_ := Aside0.mk (Kd.R_after (v := v189) (v1 := v189) (ok := (fun k_ => some k_ ≠ (.slice (some ad191) x6_3.length co8 : Value).ownBlock)) (by (with_reducible repeat (first | apply Kd.R_alloc | apply Kd.R_drewN | apply Kd.R_drew)); exact Kd.R_mono HL191_0.out (fun _ hk => ⟨hk.2, hk.1.2⟩)) hg (.inl rfl)); have n3_ := Aside0.mk (hb); clear HO_6; clear HO190; clear HL191_0; clear HB; have HO_6 := n0_; have HO190 := n1_; have HL191_0 := n2_; have HB := n3_; clear n0_ n1_ n2_ n3_; clear hg hb hp_))
          go_loopg [82] k3 (fun kq v82 w' => ∃ (x6_4 : List (List Int)) (x11_4 : List Int) (x82_4 : Int), v82 = .int .i64 x82_4 ∧ Aside0 (bounds_closed.l3 kq a0 x6_4 x68_3 x11_4 (x6_2.length : Int) x68_3 (x6_3.length : Int) x82_4 = some (r1, r2)) ∧ Aside0 (kq ≤ k3) ∧ Aside0 (Kd.S (Kd.slice 3 (Kd.int .i64)) 22 w' w.heap.size (fun k_ => some k_ ≠ (v189 : Value).ownBlock) (.slice (some ad191) x6_3.length co8) x6_4) ∧ Aside0 (Kd.R (Kd.int .i64) 3 w' w.heap.size (fun _ => True) v189 x11_4) ∧ Aside0 (Below w.heap.size w w'))
          case atStart => exact ⟨(x6_3), (y192), (0), (by first | rfl | (simp; done) | (simp [*]; done)), H', ⟨Nat.le_refl _⟩, ⟨by (try simp only [hl6_1]); (try simp only [hl6_2]); (try simp only [hl6_3]); (with_reducible repeat (first | apply Kd.S_alloc | apply Kd.S_drewN | apply Kd.S_drew)); exact Kd.S_mono HO_6.out (fun _ hk => hk.2)⟩, ⟨by (try simp only [hl6_1]); (try simp only [hl6_2]); (try simp only [hl6_3]); (with_reducible repeat (first | apply Kd.R_alloc | apply Kd.R_drewN | apply Kd.R_drew)); exact HO190.out⟩, ⟨by repeat (first | (with_reducible first | exact HB.out | apply below_alloc | apply pw_below_drewN | apply below_drew1) | exact HB.out)⟩⟩
          case round =>
           clear H'
           try clear c1
           try clear p1
           try clear q1
           try clear hx1
           try clear c2
           try clear p2
           try clear q2
           try clear hx2
           try clear hf2
           try clear c3
           try clear p3
           try clear q3
           try clear hx3
           try clear hf3
           try clear c4
           try clear c4b0
           try clear c4b1
           try clear c5
           try clear c5b0
           try clear c5b1
           try clear p6
           try clear c9
           try clear c9b0
           try clear c11
           try clear c11b0
           try clear c12
           try clear c12b0
           try clear c13
           try clear p13
           try clear q13
           try clear hx13
           try clear hf13
           try clear c14
           try clear c14b0
           try clear p15
           try clear q15
           try clear hx15
           try clear hf15
           try clear c17
           try clear p17
           try clear q17
           try clear hx17
           try clear c18
           try clear p18
           try clear q18
           try clear hx18
           try clear c19
           try clear p19
           try clear q19
           try clear hx19
           try clear c20
           try clear hx20
           try clear hf20
           try clear c22
           try clear q22
           try clear c24
           try clear c24b0
           try clear c25
           try clear c25b0
           try clear c26
           try clear c26b0
           try clear c27
           try clear c27b0
           try clear c28
           try clear c28b0
           try clear c29
           try clear c29b0
           try clear c30
           try clear c30b0
           try clear p32
           try clear q32
           try clear hx32
           try clear hf32
           try clear c37
           try clear q37
           try clear c39
           try clear c39b0
           try clear c41
           try clear c41b0
           try clear c41b1
           try clear c42
           try clear c42b0
           try clear c42b1
           try clear c43
           try clear c43b0
           try clear c44
           try clear c44b0
           try clear c46
           try clear hcz34_0
           try clear hcz34_1
           try clear hcz34_2
           try clear hfz34_0
           try clear hfz34_1
           try clear hfz34_2
           try clear hx13_0
           try clear hx15_0
           try clear hx176_0
           try clear hx180_0
           try clear hx180_1
           try clear hx180_2
           try clear hx182_0
           try clear hx183_0
           try clear hx184_0
           try clear hx191_0
           try clear hx20_0
           try clear hx32_0
           try clear p1
           try clear p13
           try clear p15
           try clear p17
           try clear p176
           try clear p18
           try clear p180
           try clear p182
           try clear p183
           try clear p184
           try clear p191
           try clear p2
           try clear p3
           try clear p32
           try clear p6
           try clear q1
           try clear q13
           try clear q15
           try clear q17
           try clear q176
           try clear q18
           try clear q180
           try clear q182
           try clear q183
           try clear q184
           try clear q191
           try clear q2
           try clear q22
           try clear q3
           try clear q32
           try clear q37
           (try clear hji3_)
           (try clear hji3w)
           (try clear hji3)
           (try clear hji40_)
           (try clear hji40w)
           (try clear hji40)
           obtain ⟨x6_4, x11_4, x82_4, rfl, HA, HK4, HO_6, HO_11, HB⟩ := hrel
           have hl6_4 := (Kd.S_reads' HO_6.out).1
           rw [hl6_4] at HO_6
           (try simp only [hl6_4])
           (try simp only [hl6_4] at HO_11)
           cases gk with
           | zero => exact absurd HA.out (by simp [bounds_closed.l3])
           | succ k4 =>
            have H := HA.out
            clear HA
            simp only [bounds_closed.l3] at H
            by_cases c49 : x82_4 < (x6_3.length : Int)
            ·rw [if_pos c49] at H
             have c49b0 : decide (x82_4 < (x6_3.length : Int)) = true := decide_eq_true c49
             have c49b0x := c49b0; (try simp only [hl6_1] at c49b0x); (try simp only [hl6_2] at c49b0x); (try simp only [hl6_3] at c49b0x); (try simp only [hl6_4] at c49b0x)
             clear c49
             by_cases c50 : 0 ≤ x82_4
             case neg => rw [if_neg c50] at H; exact absurd H (by simp)
             rw [if_pos c50] at H
             have c50b0 : decide (0 ≤ x82_4) = true := decide_eq_true c50
             clear c50
             by_cases c51 : x82_4 < (x6_4.length : Int)
             case neg => rw [if_neg c51] at H; exact absurd H (by simp)
             rw [if_pos c51] at H
             have c51b0 : decide (x82_4 < (x6_4.length : Int)) = true := decide_eq_true c51
             have c51b0x := c51b0; (try simp only [hl6_1] at c51b0x); (try simp only [hl6_2] at c51b0x); (try simp only [hl6_3] at c51b0x); (try simp only [hl6_4] at c51b0x)
             clear c51
             by_cases c52 : 0 ≤ x68_3
             case neg => rw [if_neg c52] at H; exact absurd H (by simp)
             rw [if_pos c52] at H
             have c52b0 : decide (0 ≤ x68_3) = true := decide_eq_true c52
             clear c52
             by_cases c53 : x68_3 < ((rd_L4 x6_4 x82_4).length : Int)
             case neg => rw [if_neg c53] at H; exact absurd H (by simp)
             rw [if_pos c53] at H
             have c53b0 : decide (x68_3 < ((rd_L4 x6_4 x82_4).length : Int)) = true := decide_eq_true c53
             have c53b0x := c53b0; (try simp only [hl6_1] at c53b0x); (try simp only [hl6_2] at c53b0x); (try simp only [hl6_3] at c53b0x); (try simp only [hl6_4] at c53b0x)
             clear c53
             by_cases c54 : (rd (rd_L4 x6_4 x82_4) x68_3) ≥ 1099511627776
             ·rw [if_pos c54] at H
              have c54b0 : decide (1099511627776 ≤ (rd (rd_L4 x6_4 x82_4) x68_3)) = true := decide_eq_true c54
              clear c54
              have H' := Aside0.mk H
              clear H
              have p193 : 0 ≤ (x82_4 : Int) := of_decide_eq_true (by with_reducible assumption)
              have q193 : x82_4 < (x6_4.length : Int) := of_decide_eq_true (by with_reducible assumption)
              obtain ⟨ad193, A193_0, c193_0, e193, hx193_0, hl193_0, hi193_0⟩ := at_L4 (Kd.S_reads' HO_6.out).2.2 x82_4 p193 q193
              obtain rfl : ad191 = ad193 := (by injection e193)
              obtain ⟨ce193, hce193, hMe193, hcc193⟩ := Kd.S_get HO_6.out [] x82_4 p193 (by first | exact q193 | exact of_decide_eq_true (by with_reducible assumption) | (have e_ := (Kd.S_reads' HO_6.out).1; omega))
              obtain ⟨ve193_0, rfl, ge193_0⟩ := hMe193
              have hv193_0 := hcc193 0 _ rfl
              rw [Nat.add_zero, show ((Kd.slice 3 (Kd.int .i64))).sz = 1 from rfl, Nat.mul_one] at hv193_0
              replace hv193_0 := Option.some.inj (hv193_0.symm.trans hx193_0)
              rw [hv193_0] at ge193_0
              have HL193_0 := Aside0.mk (show Kd.R (Kd.int .i64) 3 _ _ _ _ (rd_L4 x6_4 x82_4) from ge193_0)
              clear hv193_0 ge193_0
              have HX193_0 := Aside0.mk hx193_0
              clear hcc193 hce193
              have HR193_0 := Aside0.mk hi193_0
              have HC193_0 := Aside0.mk hl193_0
              clear hi193_0 hl193_0
              replace p193 := eq_true p193
              replace q193 := eq_true q193
              have p194 : 0 ≤ (x68_3 : Int) := of_decide_eq_true (by with_reducible assumption)
              have q194 : x68_3 < ((rd_L4 x6_4 x82_4).length : Int) := of_decide_eq_true (by with_reducible assumption)
              obtain ⟨ad194, e194, hx194_0⟩ := Kd.at_int (by repeat (first | (with_reducible exact HR193_0.out) | (with_reducible refine Kd.C_alloc ?_ _) | (with_reducible refine Kd.C_drewN ?_ _) | (with_reducible refine Kd.C_drew ?_) | exact HR193_0.out)) x68_3 p194 q194
              cases e194
              replace p194 := eq_true p194
              replace q194 := eq_true q194
              go_wp2
              (try simp only [← hl6_4])
              go_roundg k4
              case measure => have := HK1.out; have := HK2.out; have := HK3.out; have := HK4.out; omega
              case rel => exact ⟨(x6_4), (x11_4), (wrap64 (x82_4 + 1)), (by first | rfl | (simp; done) | (simp [*]; done)), H', ⟨by have := HK1.out; have := HK2.out; have := HK3.out; have := HK4.out; omega⟩, ⟨by (try simp only [hl6_1]); (try simp only [hl6_2]); (try simp only [hl6_3]); (try simp only [hl6_4]); (with_reducible repeat (first | apply Kd.S_alloc | apply Kd.S_drewN | apply Kd.S_drew)); exact HO_6.out⟩, ⟨by (try simp only [hl6_1]); (try simp only [hl6_2]); (try simp only [hl6_3]); (try simp only [hl6_4]); (with_reducible repeat (first | apply Kd.R_alloc | apply Kd.R_drewN | apply Kd.R_drew)); exact HO_11.out⟩, ⟨by repeat (first | (with_reducible first | exact HB.out | apply below_alloc | apply pw_below_drewN | apply below_drew1) | exact HB.out)⟩⟩
             ·rw [if_neg c54] at H
              have c54b0 : decide (1099511627776 ≤ (rd (rd_L4 x6_4 x82_4) x68_3)) = false := decide_eq_false c54
              clear c54
              have H' := Aside0.mk H
              clear H
              have p193 : 0 ≤ (x82_4 : Int) := of_decide_eq_true (by with_reducible assumption)
              have q193 : x82_4 < (x6_4.length : Int) := of_decide_eq_true (by with_reducible assumption)
              obtain ⟨ad193, A193_0, c193_0, e193, hx193_0, hl193_0, hi193_0⟩ := at_L4 (Kd.S_reads' HO_6.out).2.2 x82_4 p193 q193
              obtain rfl : ad191 = ad193 := (by injection e193)
              obtain ⟨ce193, hce193, hMe193, hcc193⟩ := Kd.S_get HO_6.out [] x82_4 p193 (by first | exact q193 | exact of_decide_eq_true (by with_reducible assumption) | (have e_ := (Kd.S_reads' HO_6.out).1; omega))
              obtain ⟨ve193_0, rfl, ge193_0⟩ := hMe193
              have hv193_0 := hcc193 0 _ rfl
              rw [Nat.add_zero, show ((Kd.slice 3 (Kd.int .i64))).sz = 1 from rfl, Nat.mul_one] at hv193_0
              replace hv193_0 := Option.some.inj (hv193_0.symm.trans hx193_0)
              rw [hv193_0] at ge193_0
              have HL193_0 := Aside0.mk (show Kd.R (Kd.int .i64) 3 _ _ _ _ (rd_L4 x6_4 x82_4) from ge193_0)
              clear hv193_0 ge193_0
              have HX193_0 := Aside0.mk hx193_0
              clear hcc193 hce193
              have HR193_0 := Aside0.mk hi193_0
              have HC193_0 := Aside0.mk hl193_0
              clear hi193_0 hl193_0
              replace p193 := eq_true p193
              replace q193 := eq_true q193
              have p194 : 0 ≤ (x68_3 : Int) := of_decide_eq_true (by with_reducible assumption)
              have q194 : x68_3 < ((rd_L4 x6_4 x82_4).length : Int) := of_decide_eq_true (by with_reducible assumption)
              obtain ⟨ad194, e194, hx194_0⟩ := Kd.at_int (by repeat (first | (with_reducible exact HR193_0.out) | (with_reducible refine Kd.C_alloc ?_ _) | (with_reducible refine Kd.C_drewN ?_ _) | (with_reducible refine Kd.C_drew ?_) | exact HR193_0.out)) x68_3 p194 q194
              cases e194
              obtain ⟨go67, co66, eo66, gb66, gl66, cl66, HG66⟩ := Kd.R_form HL193_0.out (by omega)
              obtain rfl : ad194 = ⟨go67, 0, none⟩ := (by injection eo66 with ea_; injection ea_)
              obtain rfl : c193_0 = co66 := (by injection eo66)
              clear gb66 gl66 HG66 eo66
              (first | simp only [add_plain] at hx194_0 | skip)
              replace p194 := eq_true p194
              replace q194 := eq_true q194
              obtain ⟨Ao55, co55, eo55⟩ := Kd.R_slice HO_11.out
              subst eo55
              go_wp2
              go_loopg [94] k4 (fun kq v94 w' => ∃ (x6_5 : List (List Int)) (x11_5 : List Int) (x94_5 : Int), v94 = .int .i64 x94_5 ∧ Aside0 (bounds_closed.l4 kq a0 x6_5 x68_3 x11_5 x82_4 (rd_L4 x6_4 x82_4) (x6_2.length : Int) x68_3 (x6_3.length : Int) x82_4 (x11_4.length : Int) x94_5 = some (r1, r2)) ∧ Aside0 (kq ≤ k4) ∧ Aside0 (Kd.S (Kd.slice 3 (Kd.int .i64)) 22 w' w.heap.size (fun k_ => some k_ ≠ ((.slice Ao55 x11_4.length co55) : Value).ownBlock) (.slice (some ad191) x6_4.length co8) x6_5) ∧ Aside0 (Kd.R (Kd.int .i64) 3 w' w.heap.size (fun _ => True) (.slice Ao55 x11_4.length co55) x11_5) ∧ Aside0 (w'.cell? (ad191.add (x82_4).toNat) = some (.slice (some ⟨go67, 0, none⟩) (rd_L4 x6_4 x82_4).length c193_0)) ∧ Aside0 (Below w.heap.size w w'))
              case atStart => exact ⟨(x6_4), (x11_4), (0), (by first | rfl | (simp; done) | (simp [*]; done)), H', ⟨Nat.le_refl _⟩, ⟨by (try simp only [hl6_1]); (try simp only [hl6_2]); (try simp only [hl6_3]); (try simp only [hl6_4]); (with_reducible repeat (first | apply Kd.S_alloc | apply Kd.S_drewN | apply Kd.S_drew)); exact HO_6.out⟩, ⟨by (try simp only [hl6_1]); (try simp only [hl6_2]); (try simp only [hl6_3]); (try simp only [hl6_4]); (with_reducible repeat (first | apply Kd.R_alloc | apply Kd.R_drewN | apply Kd.R_drew)); exact HO_11.out⟩, ⟨hx193_0⟩, ⟨by repeat (first | (with_reducible first | exact HB.out | apply below_alloc | apply pw_below_drewN | apply below_drew1) | exact HB.out)⟩⟩
              case round =>
               clear H'
               try clear c1
               try clear p1
               try clear q1
               try clear hx1
               try clear c2
               try clear p2
               try clear q2
               try clear hx2
               try clear hf2
               try clear c3
               try clear p3
               try clear q3
               try clear hx3
               try clear hf3
               try clear c4
               try clear c4b0
               try clear c4b1
               try clear c5
               try clear c5b0
               try clear c5b1
               try clear p6
               try clear c9
               try clear c9b0
               try clear c11
               try clear c11b0
               try clear c12
               try clear c12b0
               try clear c13
               try clear p13
               try clear q13
               try clear hx13
               try clear hf13
               try clear c14
               try clear c14b0
               try clear p15
               try clear q15
               try clear hx15
               try clear hf15
               try clear c17
               try clear p17
               try clear q17
               try clear hx17
               try clear c18
               try clear p18
               try clear q18
               try clear hx18
               try clear c19
               try clear p19
               try clear q19
               try clear hx19
               try clear c20
               try clear hx20
               try clear hf20
               try clear c22
               try clear q22
               try clear c24
               try clear c24b0
               try clear c25
               try clear c25b0
               try clear c26
               try clear c26b0
               try clear c27
               try clear c27b0
               try clear c28
               try clear c28b0
               try clear c29
               try clear c29b0
               try clear c30
               try clear c30b0
               try clear p32
               try clear q32
               try clear hx32
               try clear hf32
               try clear c37
               try clear q37
               try clear c39
               try clear c39b0
               try clear c41
               try clear c41b0
               try clear c41b1
               try clear c42
               try clear c42b0
               try clear c42b1
               try clear c43
               try clear c43b0
               try clear c44
               try clear c44b0
               try clear c46
               try clear c49
               try clear c49b0
               try clear c50
               try clear c50b0
               try clear c51
               try clear c51b0
               try clear c52
               try clear c52b0
               try clear c53
               try clear c53b0
               try clear c54
               try clear c54b0
               try clear hcz34_0
               try clear hcz34_1
               try clear hcz34_2
               try clear hfz34_0
               try clear hfz34_1
               try clear hfz34_2
               try clear hx13_0
               try clear hx15_0
               try clear hx176_0
               try clear hx180_0
               try clear hx180_1
               try clear hx180_2
               try clear hx182_0
               try clear hx183_0
               try clear hx184_0
               try clear hx191_0
               try clear hx193_0
               try clear hx194_0
               try clear hx20_0
               try clear hx32_0
               try clear p1
               try clear p13
               try clear p15
               try clear p17
               try clear p176
               try clear p18
               try clear p180
               try clear p182
               try clear p183
               try clear p184
               try clear p19
               try clear p191
               try clear p193
               try clear p194
               try clear p2
               try clear p3
               try clear p32
               try clear p6
               try clear q1
               try clear q13
               try clear q15
               try clear q17
               try clear q176
               try clear q18
               try clear q180
               try clear q182
               try clear q183
               try clear q184
               try clear q19
               try clear q191
               try clear q193
               try clear q194
               try clear q2
               try clear q22
               try clear q3
               try clear q32
               try clear q37
               (try clear hji3_)
               (try clear hji3w)
               (try clear hji3)
               (try clear hji40_)
               (try clear hji40w)
               (try clear hji40)
               obtain ⟨x6_5, x11_5, x94_5, rfl, HA, HK5, HO_6, HO_11, HH, HB⟩ := hrel
               have hl6_5 := (Kd.S_reads' HO_6.out).1
               rw [hl6_5] at HO_6
               (try simp only [hl6_5])
               (try simp only [hl6_5] at HO_11)
               have hl11_5 := (Kd.R_reads' HO_11.out).1
               rw [hl11_5] at HO_11
               (try simp only [hl11_5])
               (try simp only [hl11_5] at HO_6)
               cases gk with
               | zero => exact absurd HA.out (by simp [bounds_closed.l4])
               | succ k5 =>
                have H := HA.out
                clear HA
                simp only [bounds_closed.l4] at H
                by_cases c56 : x94_5 < (x11_4.length : Int)
                ·rw [if_pos c56] at H
                 have c56b0 : decide (x94_5 < (x11_4.length : Int)) = true := decide_eq_true c56
                 have c56b0x := c56b0; (try simp only [hl6_1] at c56b0x); (try simp only [hl6_2] at c56b0x); (try simp only [hl6_3] at c56b0x); (try simp only [hl6_4] at c56b0x); (try simp only [hl6_5] at c56b0x); (try simp only [hl11_5] at c56b0x)
                 clear c56
                 by_cases c57 : 0 ≤ x94_5
                 case neg => rw [if_neg c57] at H; exact absurd H (by simp)
                 rw [if_pos c57] at H
                 have c57b0 : decide (0 ≤ x94_5) = true := decide_eq_true c57
                 clear c57
                 by_cases c58 : x94_5 < (x11_5.length : Int)
                 case neg => rw [if_neg c58] at H; exact absurd H (by simp)
                 rw [if_pos c58] at H
                 have c58b0 : decide (x94_5 < (x11_5.length : Int)) = true := decide_eq_true c58
                 have c58b0x := c58b0; (try simp only [hl6_1] at c58b0x); (try simp only [hl6_2] at c58b0x); (try simp only [hl6_3] at c58b0x); (try simp only [hl6_4] at c58b0x); (try simp only [hl6_5] at c58b0x); (try simp only [hl11_5] at c58b0x)
                 clear c58
                 by_cases c59 : (rd x11_5 x94_5) < 1099511627776
                 ·rw [if_pos c59] at H
                  have c59b0 : decide ((rd x11_5 x94_5) < 1099511627776) = true := decide_eq_true c59
                  clear c59
                  by_cases c60 : 0 ≤ x82_4
                  case neg => rw [if_neg c60] at H; exact absurd H (by simp)
                  rw [if_pos c60] at H
                  have c60b0 : decide (0 ≤ x82_4) = true := decide_eq_true c60
                  clear c60
                  by_cases c61 : x82_4 < (x6_5.length : Int)
                  case neg => rw [if_neg c61] at H; exact absurd H (by simp)
                  rw [if_pos c61] at H
                  have c61b0 : decide (x82_4 < (x6_5.length : Int)) = true := decide_eq_true c61
                  have c61b0x := c61b0; (try simp only [hl6_1] at c61b0x); (try simp only [hl6_2] at c61b0x); (try simp only [hl6_3] at c61b0x); (try simp only [hl6_4] at c61b0x); (try simp only [hl6_5] at c61b0x); (try simp only [hl11_5] at c61b0x)
                  clear c61
                  by_cases c62 : x94_5 < ((rd_L4 x6_5 x82_4).length : Int)
                  case neg => rw [if_neg c62] at H; exact absurd H (by simp)
                  rw [if_pos c62] at H
                  have c62b0 : decide (x94_5 < ((rd_L4 x6_5 x82_4).length : Int)) = true := decide_eq_true c62
                  have c62b0x := c62b0; (try simp only [hl6_1] at c62b0x); (try simp only [hl6_2] at c62b0x); (try simp only [hl6_3] at c62b0x); (try simp only [hl6_4] at c62b0x); (try simp only [hl6_5] at c62b0x); (try simp only [hl11_5] at c62b0x)
                  clear c62
                  by_cases c63 : 0 ≤ x68_3
                  case neg => rw [if_neg c63] at H; exact absurd H (by simp)
                  rw [if_pos c63] at H
                  have c63b0 : decide (0 ≤ x68_3) = true := decide_eq_true c63
                  clear c63
                  by_cases c64 : x68_3 < ((rd_L4 x6_5 x82_4).length : Int)
                  case neg => rw [if_neg c64] at H; exact absurd H (by simp)
                  rw [if_pos c64] at H
                  have c64b0 : decide (x68_3 < ((rd_L4 x6_5 x82_4).length : Int)) = true := decide_eq_true c64
                  have c64b0x := c64b0; (try simp only [hl6_1] at c64b0x); (try simp only [hl6_2] at c64b0x); (try simp only [hl6_3] at c64b0x); (try simp only [hl6_4] at c64b0x); (try simp only [hl6_5] at c64b0x); (try simp only [hl11_5] at c64b0x)
                  clear c64
                  obtain ⟨ji65, hji65⟩ : ∃ j_ : Int, (mn (rd (rd_L4 x6_5 x82_4) x94_5) (wrap64 ((rd (rd_L4 x6_5 x82_4) x68_3) + (rd x11_5 x94_5)))) = j_ := ⟨_, rfl⟩
                  replace H : (if x94_5 < ((rd_L4 x6_5 x82_4).length : Int) then (bounds_closed.l4 k5 a0 (x6_5.set (x82_4 : Int).toNat ((rd_L4 x6_5 x82_4).set (x94_5 : Int).toNat (ji65))) x68_3 x11_5 x82_4 (rd_L4 x6_4 x82_4) (x6_2.length : Int) x68_3 (x6_3.length : Int) x82_4 (x11_4.length : Int) (wrap64 (x94_5 + 1))) else (none)) = some (r1, r2) := by first | (rw [hji65] at H; exact H) | (simp only [hji65] at H ⊢; exact H)
                  have hji65_ : (if (wrap64 ((rd (rd_L4 x6_5 x82_4) x68_3) + (rd x11_5 x94_5))) < (rd (rd_L4 x6_5 x82_4) x94_5) then (wrap64 ((rd (rd_L4 x6_5 x82_4) x68_3) + (rd x11_5 x94_5))) else (rd (rd_L4 x6_5 x82_4) x94_5)) = ji65 := hji65
                  by_cases c66 : x94_5 < ((rd_L4 x6_5 x82_4).length : Int)
                  case neg => rw [if_neg c66] at H; exact absurd H (by simp)
                  rw [if_pos c66] at H
                  have c66b0 : decide (x94_5 < ((rd_L4 x6_5 x82_4).length : Int)) = true := decide_eq_true c66
                  have c66b0x := c66b0; (try simp only [hl6_1] at c66b0x); (try simp only [hl6_2] at c66b0x); (try simp only [hl6_3] at c66b0x); (try simp only [hl6_4] at c66b0x); (try simp only [hl6_5] at c66b0x); (try simp only [hl11_5] at c66b0x)
                  clear c66
                  obtain ⟨y199, hy199⟩ : ∃ y_ : List Int, y_ = ((rd_L4 x6_5 x82_4).set (x94_5 : Int).toNat (ji65)) := ⟨_, rfl⟩
                  replace H : (bounds_closed.l4 k5 a0 (x6_5.set (x82_4 : Int).toNat y199) x68_3 x11_5 x82_4 (rd_L4 x6_4 x82_4) (x6_2.length : Int) x68_3 (x6_3.length : Int) x82_4 (x11_4.length : Int) (wrap64 (x94_5 + 1))) = some (r1, r2) := by first | (rw [hy199]; with_reducible exact H) | (have H2_ := (Option.bind_some _ _).symm.trans H; rw [hy199]; with_reducible exact H2_) | (have H2_ := (Option.bind_some _ _).symm.trans H; with_reducible exact H2_) | with_reducible exact H | (rw [hy199]; exact H) | exact H
                  have Ny199 := Aside0.mk hy199
                  clear hy199
                  obtain ⟨y201, hy201⟩ : ∃ y_ : List (List Int), y_ = (x6_5.set (x82_4 : Int).toNat y199) := ⟨_, rfl⟩
                  replace H : (bounds_closed.l4 k5 a0 y201 x68_3 x11_5 x82_4 (rd_L4 x6_4 x82_4) (x6_2.length : Int) x68_3 (x6_3.length : Int) x82_4 (x11_4.length : Int) (wrap64 (x94_5 + 1))) = some (r1, r2) := by first | (rw [hy201]; with_reducible exact H) | (have H2_ := (Option.bind_some _ _).symm.trans H; rw [hy201]; with_reducible exact H2_) | (have H2_ := (Option.bind_some _ _).symm.trans H; with_reducible exact H2_) | with_reducible exact H | (rw [hy201]; exact H) | exact H
                  have Ny201 := Aside0.mk hy201
                  clear hy201
                  have H' := Aside0.mk H
                  clear H
                  have p195 : 0 ≤ (x94_5 : Int) := of_decide_eq_true (by with_reducible assumption)
                  have q195 : x94_5 < (x11_5.length : Int) := of_decide_eq_true (by with_reducible assumption)
                  obtain ⟨ad195, e195, hx195_0⟩ := Kd.at_int (Kd.R_reads' HO_11.out).2.2 x94_5 p195 q195
                  cases e195
                  replace p195 := eq_true p195
                  replace q195 := eq_true q195
                  try go_wp2
                  have n0_ := Aside0.mk (Kd.S_drew HO_6.out)
                  have n1_ := Aside0.mk (Kd.R_drew HO_11.out)
                  have n2_ := Aside0.mk (below_drew1 HB.out)
                  clear HO_6
                  clear HO_11
                  clear HB
                  have HO_6 := n0_
                  have HO_11 := n1_
                  have HB := n2_
                  clear n0_ n1_ n2_
                  have p196 : 0 ≤ (x82_4 : Int) := of_decide_eq_true (by with_reducible assumption)
                  have q196 : x82_4 < (x6_5.length : Int) := of_decide_eq_true (by with_reducible assumption)
                  obtain ⟨ad196, A196_0, c196_0, e196, hx196_0, hl196_0, hi196_0⟩ := at_L4 (Kd.S_reads' HO_6.out).2.2 x82_4 p196 q196
                  obtain rfl : ad191 = ad196 := (by injection e196)
                  have eh_ := Option.some.inj (hx196_0.symm.trans HH.out)
                  injection eh_ with ea_ en_ ec_
                  subst ea_
                  subst ec_
                  have c62b0y := c62b0
                  rw [en_] at c62b0y
                  have c64b0y := c64b0
                  rw [en_] at c64b0y
                  have qy62 := eq_true (of_decide_eq_true c62b0y)
                  have qy64 := eq_true (of_decide_eq_true c64b0y)
                  obtain ⟨ce196, hce196, hMe196, hcc196⟩ := Kd.S_get HO_6.out [] x82_4 p196 (by first | exact q196 | exact of_decide_eq_true (by with_reducible assumption) | (have e_ := (Kd.S_reads' HO_6.out).1; omega))
                  obtain ⟨ve196_0, rfl, ge196_0⟩ := hMe196
                  have hv196_0 := hcc196 0 _ rfl
                  rw [Nat.add_zero, show ((Kd.slice 3 (Kd.int .i64))).sz = 1 from rfl, Nat.mul_one] at hv196_0
                  replace hv196_0 := Option.some.inj (hv196_0.symm.trans hx196_0)
                  rw [hv196_0] at ge196_0
                  have HL196_0 := Aside0.mk (show Kd.R (Kd.int .i64) 3 _ _ _ _ (rd_L4 x6_5 x82_4) from ge196_0)
                  clear hv196_0 ge196_0
                  have HX196_0 := Aside0.mk hx196_0
                  clear hcc196 hce196
                  have HR196_0 := Aside0.mk hi196_0
                  have HC196_0 := Aside0.mk hl196_0
                  clear hi196_0 hl196_0
                  replace p196 := eq_true p196
                  replace q196 := eq_true q196
                  have p197 : 0 ≤ (x94_5 : Int) := of_decide_eq_true (by with_reducible assumption)
                  have q197 : x94_5 < ((rd_L4 x6_5 x82_4).length : Int) := of_decide_eq_true (by with_reducible assumption)
                  obtain ⟨ad197, e197, hx197_0⟩ := Kd.at_int HR196_0.out x94_5 p197 q197
                  obtain rfl : (⟨go67, 0, none⟩ : Addr) = ad197 := (by injection e197)
                  replace p197 := eq_true p197
                  replace q197 := eq_true q197
                  have p198 : 0 ≤ (x68_3 : Int) := of_decide_eq_true (by with_reducible assumption)
                  have q198 : x68_3 < ((rd_L4 x6_5 x82_4).length : Int) := of_decide_eq_true (by with_reducible assumption)
                  obtain ⟨ad198, e198, hx198_0⟩ := Kd.at_int HR196_0.out x68_3 p198 q198
                  obtain rfl : (⟨go67, 0, none⟩ : Addr) = ad198 := (by injection e198)
                  replace p198 := eq_true p198
                  replace q198 := eq_true q198
                  have p67 : 0 ≤ (x94_5 : Int) := of_decide_eq_true (by with_reducible assumption)
                  have q67 : (x94_5 : Int) < (((rd_L4 x6_5 x82_4).length : Int) : Int) := of_decide_eq_true (by with_reducible assumption)
                  obtain ⟨g67_, co67, eo67, gb67, gl67, cl67, HG67⟩ := Kd.R_form HL196_0.out (by omega)
                  obtain rfl : go67 = g67_ := (by injection eo67 with ea_; injection ea_ with ea_; injection ea_)
                  obtain rfl : c196_0 = co67 := (by injection eo67)
                  (first | simp only [add_plain] at hx197_0 | skip)
                  (first | simp only [add_plain] at hx198_0 | skip)
                  have GB67 := Aside0.mk gb67
                  have GG67 := Aside0.mk HG67
                  clear gb67 gl67 HG67
                  obtain ⟨hx67_0, hf67_0⟩ := Kd.R_celln 0 HL196_0.out (x94_5 : Int) p67 q67
                  replace p67 := eq_true p67
                  replace q67 := eq_true q67
                  have hq69 : (x82_4 : Int) < (x6_5.length : Int) := (by have h_ : (x82_4 : Int) < ((x6_5.length : Int) : Int) := of_decide_eq_true (by with_reducible assumption); first | exact h_ | (have e_ := (Kd.S_reads' HO_6.out).1; omega) | simpa only [List.length_set, List.length_set] using h_)
                  obtain ⟨oki69, ce69, hcl69, hM69, hcc69, hok69, hbk69⟩ := Kd.S_borrow HO_6.out [] (x82_4 : Int) (of_decide_eq_true (by with_reducible assumption)) hq69
                  obtain ⟨ve69_0, rfl, ge69_0⟩ := hM69
                  have hv69 := hcc69 0 _ rfl
                  rw [Nat.add_zero, show ((Kd.slice 3 (Kd.int .i64))).sz = 1 from rfl, Nat.mul_one] at hv69
                  replace hv69 := Option.some.inj (hv69.symm.trans HX196_0.out)
                  subst hv69
                  clear hcc69 hcl69
                  replace ge69_0 := (show Kd.R (Kd.int .i64) 3 _ _ _ _ (rd_L4 x6_5 x82_4) from ge69_0)
                  have HP69 := Kd.R_putg ge69_0 (x94_5 : Int) ji65
                  rw [← Ny199.out] at HP69
                  have HS69 := hbk69 HP69.2 (fun k_ e_ => by injection e_ with e_; subst e_; exact ge69_0.1 _ rfl) (x' := y199) (Kd.M_row HP69.1)
                  rw [← Ny201.out] at HS69
                  have HQ69 := Aside0.mk HS69
                  clear HP69 HS69 hbk69 hok69
                  refine start_ (n := 18) (S := fun w' => w'.cell? (ad191.add (x82_4).toNat) = some (.slice (some ⟨go67, 0, none⟩) (rd_L4 x6_5 x82_4).length c196_0) ∧ w'.cell? (⟨go67, (x94_5 : Int).toNat, none⟩) = some (.int .i64 (rd (rd_L4 x6_5 x82_4) x94_5)) ∧ w'.cell? (⟨go67, (x68_3 : Int).toNat, none⟩) = some (.int .i64 (rd (rd_L4 x6_5 x82_4) x68_3))) (ds := [17]) #[false, false, false, false, false, false, false, false, false, false, false, false, false, false, false, false, false, false] (by kernel_rfl) rfl rfl ⟨hx196_0, hx197_0, hx198_0⟩ (fun hHeld => ?_); refine with_tabW bounds_closed.tab26 bounds_closed.bits26 (fun HT_ HW_ => ?_)
                  generalize wr.drew = w68 at HO_6 HO_11 HB GG67 HL196_0 HQ69 HR196_0 HX196_0 hf67_0 hx196_0 hx197_0 hx198_0 hx67_0 hHeld ⊢
                  refine pS_ 0 (some 101) rfl rfl HT_.out (by kernel_rfl) ?_ (fun _ _ _ h => h) (by rfl) ?_ ?_ ?_ ?_
                  rotate_left
                  ·intro w'
                   go_simp
                   with_reducible rfl
                  rotate_left
                  ·simp only [Act.put, spA]
                   rfl
                  refine pS_ 1 (some 102) rfl rfl HT_.out (by kernel_rfl) ?_ (fun _ _ _ h => h) (by rfl) ?_ ?_ ?_ ?_
                  rotate_left
                  ·intro w'
                   go_simp
                   with_reducible rfl
                  rotate_left
                  ·simp only [Act.put, spA]
                   rfl
                  refine pS_ 2 (some 103) rfl rfl HT_.out (by kernel_rfl) ?_ (fun _ _ _ h => h) (by rfl) ?_ ?_ ?_ ?_
                  rotate_left
                  ·intro w'
                   go_simp
                   with_reducible rfl
                  rotate_left
                  ·simp only [Act.put, spA]
                   rfl
                  refine pS_ 4 (some 105) rfl rfl HT_.out (by kernel_rfl) ?_ (fun _ _ _ h => h) (by rfl) ?_ ?_ ?_ ?_
                  rotate_left
                  ·intro w'
                   go_simp
                   with_reducible rfl
                  rotate_left
                  ·simp only [Act.put, spA]
                   rfl
                  refine pS_ 5 (some 106) rfl rfl HT_.out (by kernel_rfl) ?_ (fun _ _ _ h => h) (by rfl) ?_ ?_ ?_ ?_
                  rotate_left
                  ·intro w'
                   go_simp
                   with_reducible rfl
                  rotate_left
                  ·simp only [Act.put, spA]
                   rfl
                  refine pS_ 6 (some 107) rfl rfl HT_.out (by kernel_rfl) ?_ (fun _ _ _ h => h) (by rfl) ?_ ?_ ?_ ?_
                  rotate_left
                  ·intro w'
                   go_simp
                   with_reducible rfl
                  rotate_left
                  ·simp only [Act.put, spA]
                   rfl
                  refine pS_ 7 (some 108) rfl rfl HT_.out (by kernel_rfl) ?_ (fun _ _ _ h => h) (by rfl) ?_ ?_ ?_ ?_
                  rotate_left
                  ·intro w'
                   go_simp
                   with_reducible rfl
                  rotate_left
                  ·simp only [Act.put, spA]
                   rfl
                  refine pS_ 9 (some 110) rfl rfl HT_.out (by kernel_rfl) ?_ (fun _ _ _ h => h) (by rfl) ?_ ?_ ?_ ?_
                  rotate_left
                  ·intro w'
                   go_simp
                   with_reducible rfl
                  rotate_left
                  ·simp only [Act.put, spA]
                   rfl
                  refine pS_ 10 (some 111) rfl rfl HT_.out (by kernel_rfl) ?_ (fun _ _ _ h => h) (by rfl) ?_ ?_ ?_ ?_
                  rotate_left
                  ·intro w'
                   go_simp
                   with_reducible rfl
                  rotate_left
                  ·simp only [Act.put, spA]
                   rfl
                  refine pS_ 11 (some 112) rfl rfl HT_.out (by kernel_rfl) ?_ (fun _ _ _ h => h) (by rfl) ?_ ?_ ?_ ?_
                  rotate_left
                  ·intro w'
                   go_simp
                   with_reducible rfl
                  rotate_left
                  ·simp only [Act.put, spA]
                   rfl
                  refine pS_ 13 (some 114) rfl rfl HT_.out (by kernel_rfl) ?_ (fun _ _ _ h => h) (by rfl) ?_ ?_ ?_ ?_
                  rotate_left
                  ·intro w'
                   go_simp
                   with_reducible rfl
                  rotate_left
                  ·simp only [Act.put, spA]
                   rfl
                  refine take_ (i := 3) (N := some 104) (v := ?_) (a' := ?_) #[true, true, true, true, true, true, true, true, false, true, true, true, false, true, false, false, false, false] rfl rfl (take_ofW HT_.out HW_.out (by kernel_rfl)) (fun _ _ _ h => h) (Or.inl ⟨by rfl, ?_⟩) hHeld ?_ ?_
                  rotate_left
                  ·rintro w' ⟨s0, s1, s2⟩
                   go_simp
                   with_reducible rfl
                  rotate_left
                  ·simp only [Act.put, spA]
                   rfl
                  refine take_ (i := 8) (N := some 109) (v := ?_) (a' := ?_) #[true, true, true, true, true, true, true, true, true, true, true, true, false, true, false, false, false, false] rfl rfl (take_ofW HT_.out HW_.out (by kernel_rfl)) (fun _ _ _ h => h) (Or.inl ⟨by rfl, ?_⟩) hHeld ?_ ?_
                  rotate_left
                  ·rintro w' ⟨s0, s1, s2⟩
                   go_simp
                   with_reducible rfl
                  rotate_left
                  ·simp only [Act.put, spA]
                   rfl
                  refine take_ (i := 12) (N := some 113) (v := ?_) (a' := ?_) #[true, true, true, true, true, true, true, true, true, true, true, true, true, true, false, false, false, false] rfl rfl (take_ofW HT_.out HW_.out (by kernel_rfl)) (fun _ _ _ h => h) (Or.inl ⟨by rfl, ?_⟩) hHeld ?_ ?_
                  rotate_left
                  ·rintro w' ⟨s0, s1, s2⟩
                   go_simp
                   with_reducible rfl
                  rotate_left
                  ·simp only [Act.put, spA]
                   rfl
                  refine pS_ 14 (some 115) rfl rfl HT_.out (by kernel_rfl) ?_ (fun _ _ _ h => h) (by rfl) ?_ ?_ ?_ ?_
                  rotate_left
                  ·intro w'
                   go_simp
                   with_reducible rfl
                  rotate_left
                  ·simp only [Act.put, spA]
                   rfl
                  refine pS_ 15 (some 116) rfl rfl HT_.out (by kernel_rfl) ?_ (fun _ _ _ h => h) (by rfl) ?_ ?_ ?_ ?_
                  rotate_left
                  ·intro w'
                   go_simp
                   with_reducible rfl
                  rotate_left
                  ·simp only [Act.put, spA]
                   rfl
                  refine pS_ 16 (some 117) rfl rfl HT_.out (by kernel_rfl) ?_ (fun _ _ _ h => h) (by rfl) ?_ ?_ ?_ ?_
                  rotate_left
                  ·intro w'
                   go_simp
                   with_reducible rfl
                  rotate_left
                  ·simp only [Act.put, spA]
                   rfl
                  refine last_ (i := 17) (N := none) #[true, true, true, true, true, true, true, true, true, true, true, true, true, true, true, true, true, true] rfl rfl (one_of HT_.out (by kernel_rfl)) (by decide) (fun K hK => ?_)
                  refine skip_ (w1 := ?_) (by rfl) rfl ?_ ?_
                  rotate_left
                  ·go_simp
                   rfl
                  refine hK.out _ _ ?_
                  clear hK K
                  refine done_ (done_of HT_.out (by kernel_rfl)) ?_
                  try go_wp2
                  (try simp only [← hl6_5, ← hl11_5])
                  go_roundg k5
                  case measure => have := HK1.out; have := HK2.out; have := HK3.out; have := HK4.out; have := HK5.out; omega
                  case rel => exact ⟨(y201), (x11_5), (wrap64 (x94_5 + 1)), (by first | rfl | (simp; done) | (simp [*]; done)), H', ⟨by have := HK1.out; have := HK2.out; have := HK3.out; have := HK4.out; have := HK5.out; omega⟩, ⟨by (try simp only [hl6_1]); (try simp only [hl6_2]); (try simp only [hl6_3]); (try simp only [hl6_4]); (try simp only [hl6_5]); (try simp only [hl11_5]); (with_reducible repeat (first | apply Kd.S_alloc | apply Kd.S_drewN | apply Kd.S_drew)); exact HQ69.out⟩, ⟨by (try simp only [hl6_1]); (try simp only [hl6_2]); (try simp only [hl6_3]); (try simp only [hl6_4]); (try simp only [hl6_5]); (try simp only [hl11_5]); (with_reducible repeat (first | apply Kd.R_alloc | apply Kd.R_drewN | apply Kd.R_drew)); exact Kd.R_mono (Kd.R_far (p := ⟨go67, (x94_5 : Int).toNat, none⟩) (Kd.R_far1 HO_11.out rfl ((HL196_0.out.1 _ rfl).1)) (fun _ hk => hk.2) (.int .i64 ji65)) (fun _ hk => trivial)⟩, ⟨(cell_far (p := ⟨go67, (x94_5 : Int).toNat, none⟩) (by intro hb_; obtain ⟨cs_, hcs_⟩ := Kd.S_typed HO_6.out _ rfl; have hb2_ : ad191.block = go67 := ((by unfold Addr.add; split <;> rfl : (ad191.add (x82_4).toNat).block = ad191.block).symm.trans hb_); rw [hb2_] at hcs_; have h3_ := hcs_.symm.trans GG67.out; simp at h3_) _).trans (hx196_0.trans (by rw [en_]))⟩, ⟨by repeat (first | (with_reducible first | exact HB.out | apply below_alloc | apply pw_below_drewN | apply below_drew1 | refine below_set ?_ GB67.out) | exact HB.out)⟩⟩
                 ·rw [if_neg c59] at H
                  have c59b0 : decide ((rd x11_5 x94_5) < 1099511627776) = false := decide_eq_false c59
                  clear c59
                  have H' := Aside0.mk H
                  clear H
                  have p195 : 0 ≤ (x94_5 : Int) := of_decide_eq_true (by with_reducible assumption)
                  have q195 : x94_5 < (x11_5.length : Int) := of_decide_eq_true (by with_reducible assumption)
                  obtain ⟨ad195, e195, hx195_0⟩ := Kd.at_int (Kd.R_reads' HO_11.out).2.2 x94_5 p195 q195
                  cases e195
                  replace p195 := eq_true p195
                  replace q195 := eq_true q195
                  go_wp2
                  (try simp only [← hl6_5, ← hl11_5])
                  go_roundg k5
                  case measure => have := HK1.out; have := HK2.out; have := HK3.out; have := HK4.out; have := HK5.out; omega
                  case rel => exact ⟨(x6_5), (x11_5), (wrap64 (x94_5 + 1)), (by first | rfl | (simp; done) | (simp [*]; done)), H', ⟨by have := HK1.out; have := HK2.out; have := HK3.out; have := HK4.out; have := HK5.out; omega⟩, ⟨by (try simp only [hl6_1]); (try simp only [hl6_2]); (try simp only [hl6_3]); (try simp only [hl6_4]); (try simp only [hl6_5]); (try simp only [hl11_5]); (with_reducible repeat (first | apply Kd.S_alloc | apply Kd.S_drewN | apply Kd.S_drew)); exact HO_6.out⟩, ⟨by (try simp only [hl6_1]); (try simp only [hl6_2]); (try simp only [hl6_3]); (try simp only [hl6_4]); (try simp only [hl6_5]); (try simp only [hl11_5]); (with_reducible repeat (first | apply Kd.R_alloc | apply Kd.R_drewN | apply Kd.R_drew)); exact HO_11.out⟩, ⟨HH.out⟩, ⟨by repeat (first | (with_reducible first | exact HB.out | apply below_alloc | apply pw_below_drewN | apply below_drew1) | exact HB.out)⟩⟩
                ·rw [if_neg c56] at H
                 have c56b0 : decide (x94_5 < (x11_4.length : Int)) = false := decide_eq_false c56
                 have c56b0x := c56b0; (try simp only [hl6_1] at c56b0x); (try simp only [hl6_2] at c56b0x); (try simp only [hl6_3] at c56b0x); (try simp only [hl6_4] at c56b0x); (try simp only [hl6_5] at c56b0x); (try simp only [hl11_5] at c56b0x)
                 clear c56
                 have H' := Aside0.mk H
                 clear H
                 go_wp2
                 (try simp only [← hl6_4, ← hl6_5, ← hl11_5])
                 go_roundg k5
                 case measure => have := HK1.out; have := HK2.out; have := HK3.out; have := HK4.out; have := HK5.out; omega
                 case rel => exact ⟨(x6_5), (x11_5), (wrap64 (x82_4 + 1)), (by first | rfl | (simp; done) | (simp [*]; done)), H', ⟨by have := HK1.out; have := HK2.out; have := HK3.out; have := HK4.out; have := HK5.out; omega⟩, ⟨by (try simp only [hl6_1]); (try simp only [hl6_2]); (try simp only [hl6_3]); (try simp only [hl6_4]); (try simp only [hl6_5]); (try simp only [hl11_5]); (with_reducible repeat (first | apply Kd.S_alloc | apply Kd.S_drewN | apply Kd.S_drew)); exact HO_6.out⟩, ⟨by (try simp only [hl6_1]); (try simp only [hl6_2]); (try simp only [hl6_3]); (try simp only [hl6_4]); (try simp only [hl6_5]); (try simp only [hl11_5]); (with_reducible repeat (first | apply Kd.R_alloc | apply Kd.R_drewN | apply Kd.R_drew)); exact HO_11.out⟩, ⟨by repeat (first | (with_reducible first | exact HB.out | apply below_alloc | apply pw_below_drewN | apply below_drew1) | exact HB.out)⟩⟩
            ·rw [if_neg c49] at H
             have c49b0 : decide (x82_4 < (x6_3.length : Int)) = false := decide_eq_false c49
             have c49b0x := c49b0; (try simp only [hl6_1] at c49b0x); (try simp only [hl6_2] at c49b0x); (try simp only [hl6_3] at c49b0x); (try simp only [hl6_4] at c49b0x)
             clear c49
             have H' := Aside0.mk H
             clear H
             go_wp2
             (try simp only [← hl6_3, ← hl6_4])
             go_roundg k4
             case measure => have := HK1.out; have := HK2.out; have := HK3.out; have := HK4.out; omega
             case rel => exact ⟨(x6_4), (wrap64 (x68_3 + 1)), (by first | rfl | (simp; done) | (simp [*]; done)), H', ⟨by have := HK1.out; have := HK2.out; have := HK3.out; have := HK4.out; omega⟩, ⟨by (try simp only [hl6_1]); (try simp only [hl6_2]); (try simp only [hl6_3]); (try simp only [hl6_4]); (with_reducible repeat (first | apply Kd.S_alloc | apply Kd.S_drewN | apply Kd.S_drew)); exact Kd.S_mono HO_6.out (fun _ hk => trivial)⟩, ⟨by repeat (first | (with_reducible first | exact HB.out | apply below_alloc | apply pw_below_drewN | apply below_drew1) | exact HB.out)⟩⟩
         ·rw [if_neg c39] at H
          have c39b0 : decide (x68_3 < (x6_2.length : Int)) = false := decide_eq_false c39
          have c39b0x := c39b0; (try simp only [hl6_1] at c39b0x); (try simp only [hl6_2] at c39b0x); (try simp only [hl6_3] at c39b0x)
          clear c39
          have H' := Aside0.mk H
          clear H
          go_wp2
          go_loopg [123] k3 (fun kq v123 w' => ∃ (x123_4 : Int), v123 = .int .i64 x123_4 ∧ Aside0 (bounds_closed.l5 kq x6_3 (x6_3.length : Int) x123_4 = some (r1, r2)) ∧ Aside0 (kq ≤ k3) ∧ Aside0 (Kd.S (Kd.slice 3 (Kd.int .i64)) 22 w' w.heap.size (fun _ => True) (.slice Ao8 x6_3.length co8) x6_3) ∧ Aside0 (Below w.heap.size w w'))
          case atStart => exact ⟨(0), (by first | rfl | (simp; done) | (simp [*]; done)), H', ⟨Nat.le_refl _⟩, ⟨by (try simp only [hl6_1]); (try simp only [hl6_2]); (try simp only [hl6_3]); (with_reducible repeat (first | apply Kd.S_alloc | apply Kd.S_drewN | apply Kd.S_drew)); exact HO_6.out⟩, ⟨by repeat (first | (with_reducible first | exact HB.out | apply below_alloc | apply pw_below_drewN | apply below_drew1) | exact HB.out)⟩⟩
          case round =>
           clear H'
           try clear c1
           try clear p1
           try clear q1
           try clear hx1
           try clear c2
           try clear p2
           try clear q2
           try clear hx2
           try clear hf2
           try clear c3
           try clear p3
           try clear q3
           try clear hx3
           try clear hf3
           try clear c4
           try clear c4b0
           try clear c4b1
           try clear c5
           try clear c5b0
           try clear c5b1
           try clear c6
           try clear p6
           try clear q6
           try clear hx6
           try clear hf6
           try clear c9
           try clear c9b0
           try clear c11
           try clear c11b0
           try clear c12
           try clear c12b0
           try clear c13
           try clear p13
           try clear q13
           try clear hx13
           try clear hf13
           try clear c14
           try clear c14b0
           try clear p15
           try clear q15
           try clear hx15
           try clear hf15
           try clear c17
           try clear p17
           try clear q17
           try clear hx17
           try clear c18
           try clear p18
           try clear q18
           try clear hx18
           try clear c19
           try clear p19
           try clear q19
           try clear hx19
           try clear c20
           try clear hx20
           try clear hf20
           try clear c22
           try clear q22
           try clear c24
           try clear c24b0
           try clear c25
           try clear c25b0
           try clear c26
           try clear c26b0
           try clear c27
           try clear c27b0
           try clear c28
           try clear c28b0
           try clear c29
           try clear c29b0
           try clear c30
           try clear c30b0
           try clear p32
           try clear q32
           try clear hx32
           try clear hf32
           try clear c37
           try clear q37
           try clear c39
           try clear c39b0
           try clear c41
           try clear c41b0
           try clear c41b1
           try clear c42
           try clear c42b0
           try clear c42b1
           try clear c43
           try clear c43b0
           try clear c44
           try clear c44b0
           try clear c46
           try clear c49
           try clear c49b0
           try clear c50
           try clear c50b0
           try clear c51
           try clear c51b0
           try clear c52
           try clear c52b0
           try clear c53
           try clear c53b0
           try clear c54
           try clear c54b0
           try clear c56
           try clear c56b0
           try clear c57
           try clear c57b0
           try clear c58
           try clear c58b0
           try clear c59
           try clear c59b0
           try clear c60
           try clear c60b0
           try clear c61
           try clear c61b0
           try clear c62
           try clear c62b0
           try clear c63
           try clear c63b0
           try clear c64
           try clear c64b0
           try clear p64
           try clear c66
           try clear c66b0
           try clear p67
           try clear q67
           try clear hx67
           try clear hf67
           try clear c69
           try clear q69
           try clear hcz34_0
           try clear hcz34_1
           try clear hcz34_2
           try clear hfz34_0
           try clear hfz34_1
           try clear hfz34_2
           try clear hx13_0
           try clear hx15_0
           try clear hx176_0
           try clear hx180_0
           try clear hx180_1
           try clear hx180_2
           try clear hx182_0
           try clear hx183_0
           try clear hx184_0
           try clear hx191_0
           try clear hx193_0
           try clear hx194_0
           try clear hx195_0
           try clear hx196_0
           try clear hx197_0
           try clear hx198_0
           try clear hx20_0
           try clear hx32_0
           try clear hx67_0
           try clear p1
           try clear p13
           try clear p15
           try clear p17
           try clear p176
           try clear p18
           try clear p180
           try clear p182
           try clear p183
           try clear p184
           try clear p19
           try clear p191
           try clear p193
           try clear p194
           try clear p195
           try clear p196
           try clear p197
           try clear p198
           try clear p2
           try clear p3
           try clear p32
           try clear p6
           try clear p67
           try clear q1
           try clear q13
           try clear q15
           try clear q17
           try clear q176
           try clear q18
           try clear q180
           try clear q182
           try clear q183
           try clear q184
           try clear q19
           try clear q191
           try clear q193
           try clear q194
           try clear q195
           try clear q196
           try clear q197
           try clear q198
           try clear q2
           try clear q22
           try clear q3
           try clear q32
           try clear q37
           try clear q67
           (try clear hji3_)
           (try clear hji3w)
           (try clear hji3)
           obtain ⟨x123_4, rfl, HA, HK4, HO_6, HB⟩ := hrel
           cases gk with
           | zero => exact absurd HA.out (by simp [bounds_closed.l5])
           | succ k4 =>
            have H := HA.out
            clear HA
            simp only [bounds_closed.l5] at H
            by_cases c71 : x123_4 < (x6_3.length : Int)
            ·rw [if_pos c71] at H
             have c71b0 : decide (x123_4 < (x6_3.length : Int)) = true := decide_eq_true c71
             have c71b0x := c71b0; (try simp only [hl6_1] at c71b0x); (try simp only [hl6_2] at c71b0x); (try simp only [hl6_3] at c71b0x)
             clear c71
             by_cases c72 : 0 ≤ x123_4
             case neg => rw [if_neg c72] at H; exact absurd H (by simp)
             rw [if_pos c72] at H
             have c72b0 : decide (0 ≤ x123_4) = true := decide_eq_true c72
             clear c72
             by_cases c73 : x123_4 < (x6_3.length : Int)
             case neg => rw [if_neg c73] at H; exact absurd H (by simp)
             rw [if_pos c73] at H
             have c73b0 : decide (x123_4 < (x6_3.length : Int)) = true := decide_eq_true c73
             have c73b0x := c73b0; (try simp only [hl6_1] at c73b0x); (try simp only [hl6_2] at c73b0x); (try simp only [hl6_3] at c73b0x)
             clear c73
             by_cases c74 : x123_4 < ((rd_L4 x6_3 x123_4).length : Int)
             case neg => rw [if_neg c74] at H; exact absurd H (by simp)
             rw [if_pos c74] at H
             have c74b0 : decide (x123_4 < ((rd_L4 x6_3 x123_4).length : Int)) = true := decide_eq_true c74
             have c74b0x := c74b0; (try simp only [hl6_1] at c74b0x); (try simp only [hl6_2] at c74b0x); (try simp only [hl6_3] at c74b0x)
             clear c74
             by_cases c75 : (rd (rd_L4 x6_3 x123_4) x123_4) < 0
             ·rw [if_pos c75] at H
              have c75b0 : decide ((rd (rd_L4 x6_3 x123_4) x123_4) < 0) = true := decide_eq_true c75
              clear c75
              simp only [Option.some.injEq, Prod.mk.injEq] at H
              obtain ⟨rfl, rfl⟩ := H
              have p202 : 0 ≤ (x123_4 : Int) := of_decide_eq_true (by with_reducible assumption)
              have q202 : x123_4 < (x6_3.length : Int) := of_decide_eq_true (by with_reducible assumption)
              obtain ⟨ad202, A202_0, c202_0, e202, hx202_0, hl202_0, hi202_0⟩ := at_L4 (Kd.S_reads' HO_6.out).2.2 x123_4 p202 q202
              cases e202
              obtain ⟨ce202, hce202, hMe202, hcc202⟩ := Kd.S_get HO_6.out [] x123_4 p202 (by first | exact q202 | exact of_decide_eq_true (by with_reducible assumption) | (have e_ := (Kd.S_reads' HO_6.out).1; omega))
              obtain ⟨ve202_0, rfl, ge202_0⟩ := hMe202
              have hv202_0 := hcc202 0 _ rfl
              rw [Nat.add_zero, show ((Kd.slice 3 (Kd.int .i64))).sz = 1 from rfl, Nat.mul_one] at hv202_0
              replace hv202_0 := Option.some.inj (hv202_0.symm.trans hx202_0)
              rw [hv202_0] at ge202_0
              have HL202_0 := Aside0.mk (show Kd.R (Kd.int .i64) 3 _ _ _ _ (rd_L4 x6_3 x123_4) from ge202_0)
              clear hv202_0 ge202_0
              have HX202_0 := Aside0.mk hx202_0
              clear hcc202 hce202
              have HR202_0 := Aside0.mk hi202_0
              have HC202_0 := Aside0.mk hl202_0
              clear hi202_0 hl202_0
              replace p202 := eq_true p202
              replace q202 := eq_true q202
              have p203 : 0 ≤ (x123_4 : Int) := of_decide_eq_true (by with_reducible assumption)
              have q203 : x123_4 < ((rd_L4 x6_3 x123_4).length : Int) := of_decide_eq_true (by with_reducible assumption)
              obtain ⟨ad203, e203, hx203_0⟩ := Kd.at_int (by repeat (first | (with_reducible exact HR202_0.out) | (with_reducible refine Kd.C_alloc ?_ _) | (with_reducible refine Kd.C_drewN ?_ _) | (with_reducible refine Kd.C_drew ?_) | exact HR202_0.out)) x123_4 p203 q203
              cases e203
              replace p203 := eq_true p203
              replace q203 := eq_true q203
              go_wp2
              go_ret2
              exact ⟨_, by first | rfl | (simp [errW_none, errW_some] <;> rfl) | (simp only [← hji3]; first | rfl | (simp [errW_none, errW_some] <;> rfl)) | (simp [*, errW_none, errW_some] <;> rfl), by first | exact Kd.S_nil _ _ _ _ _ | exact Kd.N_nil _ _ _ _ _ | exact Kd.V_nil _ _ _ _ _ | exact Kd.Q_nil _ _ _ _ _ | exact Kd.R_nil _ _ _ _ _, by repeat (first | (with_reducible first | exact HB.out | apply below_alloc | apply pw_below_drewN | apply below_drew1) | exact HB.out)⟩
             ·rw [if_neg c75] at H
              have c75b0 : decide ((rd (rd_L4 x6_3 x123_4) x123_4) < 0) = false := decide_eq_false c75
              clear c75
              have H' := Aside0.mk H
              clear H
              have p202 : 0 ≤ (x123_4 : Int) := of_decide_eq_true (by with_reducible assumption)
              have q202 : x123_4 < (x6_3.length : Int) := of_decide_eq_true (by with_reducible assumption)
              obtain ⟨ad202, A202_0, c202_0, e202, hx202_0, hl202_0, hi202_0⟩ := at_L4 (Kd.S_reads' HO_6.out).2.2 x123_4 p202 q202
              cases e202
              obtain ⟨ce202, hce202, hMe202, hcc202⟩ := Kd.S_get HO_6.out [] x123_4 p202 (by first | exact q202 | exact of_decide_eq_true (by with_reducible assumption) | (have e_ := (Kd.S_reads' HO_6.out).1; omega))
              obtain ⟨ve202_0, rfl, ge202_0⟩ := hMe202
              have hv202_0 := hcc202 0 _ rfl
              rw [Nat.add_zero, show ((Kd.slice 3 (Kd.int .i64))).sz = 1 from rfl, Nat.mul_one] at hv202_0
              replace hv202_0 := Option.some.inj (hv202_0.symm.trans hx202_0)
              rw [hv202_0] at ge202_0
              have HL202_0 := Aside0.mk (show Kd.R (Kd.int .i64) 3 _ _ _ _ (rd_L4 x6_3 x123_4) from ge202_0)
              clear hv202_0 ge202_0
              have HX202_0 := Aside0.mk hx202_0
              clear hcc202 hce202
              have HR202_0 := Aside0.mk hi202_0
              have HC202_0 := Aside0.mk hl202_0
              clear hi202_0 hl202_0
              replace p202 := eq_true p202
              replace q202 := eq_true q202
              have p203 : 0 ≤ (x123_4 : Int) := of_decide_eq_true (by with_reducible assumption)
              have q203 : x123_4 < ((rd_L4 x6_3 x123_4).length : Int) := of_decide_eq_true (by with_reducible assumption)
              obtain ⟨ad203, e203, hx203_0⟩ := Kd.at_int (by repeat (first | (with_reducible exact HR202_0.out) | (with_reducible refine Kd.C_alloc ?_ _) | (with_reducible refine Kd.C_drewN ?_ _) | (with_reducible refine Kd.C_drew ?_) | exact HR202_0.out)) x123_4 p203 q203
              cases e203
              replace p203 := eq_true p203
              replace q203 := eq_true q203
              go_wp2
              go_roundg k4
              case measure => have := HK1.out; have := HK2.out; have := HK3.out; have := HK4.out; omega
              case rel => exact ⟨(wrap64 (x123_4 + 1)), (by first | rfl | (simp; done) | (simp [*]; done)), H', ⟨by have := HK1.out; have := HK2.out; have := HK3.out; have := HK4.out; omega⟩, ⟨by (try simp only [hl6_1]); (try simp only [hl6_2]); (try simp only [hl6_3]); (with_reducible repeat (first | apply Kd.S_alloc | apply Kd.S_drewN | apply Kd.S_drew)); exact HO_6.out⟩, ⟨by repeat (first | (with_reducible first | exact HB.out | apply below_alloc | apply pw_below_drewN | apply below_drew1) | exact HB.out)⟩⟩
            ·rw [if_neg c71] at H
             have c71b0 : decide (x123_4 < (x6_3.length : Int)) = false := decide_eq_false c71
             have c71b0x := c71b0; (try simp only [hl6_1] at c71b0x); (try simp only [hl6_2] at c71b0x); (try simp only [hl6_3] at c71b0x)
             clear c71
             simp only [Option.some.injEq, Prod.mk.injEq] at H
             obtain ⟨rfl, rfl⟩ := H
             go_wp2
             go_ret2
             exact ⟨_, by first | rfl | (simp [errW_none, errW_some] <;> rfl) | (simp only [← hji3]; first | rfl | (simp [errW_none, errW_some] <;> rfl)) | (simp [*, errW_none, errW_some] <;> rfl), by (with_reducible repeat (first | apply Kd.S_alloc | apply Kd.S_drewN | apply Kd.S_drew)); exact HO_6.out, by repeat (first | (with_reducible first | exact HB.out | apply below_alloc | apply pw_below_drewN | apply below_drew1) | exact HB.out)⟩
end Go.Proofs.Ytcnkjcbjlopkmaa.Q
