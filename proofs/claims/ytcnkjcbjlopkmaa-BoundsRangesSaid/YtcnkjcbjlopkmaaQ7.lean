-- Printed by wip/tools/myprint.py
import Derived.Test.YtcnkjcbjlopkmaaSp
import Derived.Test.YtcnkjcbjlopkmaaSh
import Derived.Test.YtcnkjcbjlopkmaaQ0
import Derived.Test.YtcnkjcbjlopkmaaQ5
import Derived.Test.YtcnkjcbjlopkmaaQ6
namespace Go.Proofs.Ytcnkjcbjlopkmaa.Q
open Go.RowKit Go.Proofs.YtcnkjcbjlopkmaaW.PrintWords Go.Proofs.YtcnkjcbjlopkmaaW.PrintLast Go.Proofs.YtcnkjcbjlopkmaaW.PrintMore
attribute [local go_sem] max2_int min2_int max_two min_two max_three min_three max_four min_four
set_option linter.unusedVariables false
set_option linter.unusedSimpArgs false
mutual
def r14_Close.l0 : Nat → Int → List (List Int) → Int → Option ((List (List Int)) × Int)
 | 0, _, _, _ => none
 | k + 1, x0, x7, x8 => if x8 ≤ x0 then (r14_Close.l1 k x0 x7 x8 0) else (r14_Close.l3 k x0 x7 0)
def r14_Close.l1 : Nat → Int → List (List Int) → Int → Int → Option ((List (List Int)) × Int)
 | 0, _, _, _, _ => none
 | k + 1, x0, x7, x8, x9 => if x9 ≤ x0 then (r14_Close.l2 k x0 x7 x8 x9 0) else (r14_Close.l0 k x0 x7 (wrap64 (x8 + 1)))
def r14_Close.l2 : Nat → Int → List (List Int) → Int → Int → Int → Option ((List (List Int)) × Int)
 | 0, _, _, _, _, _ => none
 | k + 1, x0, x7, x8, x9, x10 => if x10 ≤ x0 then (if 0 ≤ x9 then (if x9 < (x7.length : Int) then (if 0 ≤ x8 then (if x8 < ((rd_L4 x7 x9).length : Int) then (if (rd (rd_L4 x7 x9) x8) < 1099511627776 then (if x8 < (x7.length : Int) then (if 0 ≤ x10 then (if x10 < ((rd_L4 x7 x8).length : Int) then (if (rd (rd_L4 x7 x8) x10) < 1099511627776 then (if x10 < ((rd_L4 x7 x9).length : Int) then (r14_Close.l2 k x0 (x7.set (x9 : Int).toNat ((rd_L4 x7 x9).set (x10 : Int).toNat (mn (rd (rd_L4 x7 x9) x10) (wrap64 ((rd (rd_L4 x7 x9) x8) + (rd (rd_L4 x7 x8) x10)))))) x8 x9 (wrap64 (x10 + 1))) else (none)) else (r14_Close.l2 k x0 x7 x8 x9 (wrap64 (x10 + 1)))) else (none)) else (none)) else (none)) else (r14_Close.l2 k x0 x7 x8 x9 (wrap64 (x10 + 1)))) else (none)) else (none)) else (none)) else (none)) else (r14_Close.l1 k x0 x7 x8 (wrap64 (x9 + 1)))
def r14_Close.l3 : Nat → Int → List (List Int) → Int → Option ((List (List Int)) × Int)
 | 0, _, _, _ => none
 | k + 1, x0, x7, x11 => if x11 ≤ x0 then (if 0 ≤ x11 then (if x11 < (x7.length : Int) then (if x11 < ((rd_L4 x7 x11).length : Int) then (if (rd (rd_L4 x7 x11) x11) < 0 then (some (([] : List (List Int)), 14)) else (r14_Close.l3 k x0 x7 (wrap64 (x11 + 1)))) else (none)) else (none)) else (none)) else (some (x7, 0))
end
def r14_Close.f (k : Nat) (a0 : Int) (l1 : List (S54)) : Option ((List (List Int)) × Int) := (r14_Valid.f k a0 l1).bind fun t244 => (if t244 = 0 then ((r14_table.f k a0 l1).bind fun t245 => (r14_Close.l0 k a0 t245 0)) else (some (([] : List (List Int)), t244)))
theorem r14_Close.mono_l : ∀ k, (∀ y0 y1 y2, LeO (r14_Close.l0 k y0 y1 y2) (r14_Close.l0 (k + 1) y0 y1 y2)) ∧ (∀ y0 y1 y2 y3, LeO (r14_Close.l1 k y0 y1 y2 y3) (r14_Close.l1 (k + 1) y0 y1 y2 y3)) ∧ (∀ y0 y1 y2 y3 y4, LeO (r14_Close.l2 k y0 y1 y2 y3 y4) (r14_Close.l2 (k + 1) y0 y1 y2 y3 y4)) ∧ (∀ y0 y1 y2, LeO (r14_Close.l3 k y0 y1 y2) (r14_Close.l3 (k + 1) y0 y1 y2))
 | 0 => ⟨fun _ _ _ r h => by simp [r14_Close.l0] at h, fun _ _ _ _ r h => by simp [r14_Close.l1] at h, fun _ _ _ _ _ r h => by simp [r14_Close.l2] at h, fun _ _ _ r h => by simp [r14_Close.l3] at h⟩
 | k + 1 => by
  obtain ⟨ih0, ih1, ih2, ih3⟩ := r14_Close.mono_l k
  refine ⟨?_, ?_, ?_, ?_⟩
  ·intro y0 y1 y2
   unfold r14_Close.l0
   repeat' first
   | (with_reducible exact ih0 _ _ _)
   | (with_reducible exact ih1 _ _ _ _)
   | (with_reducible exact ih2 _ _ _ _ _)
   | (with_reducible exact ih3 _ _ _)
   | (with_reducible exact r14_Valid.mono _ _ _)
   | (with_reducible exact r14_table.mono _ _ _)
   | (with_reducible exact LeO.refl _)
   | (with_reducible exact LeO.none _)
   | (with_reducible refine LeO.ite ?_ ?_)
   | (with_reducible refine LeO.bind ?_ (fun _ => ?_))
   | exact LeO.none _
   | refine LeO.ite ?_ ?_
   | refine LeO.bind ?_ (fun _ => ?_)
  ·intro y0 y1 y2 y3
   unfold r14_Close.l1
   repeat' first
   | (with_reducible exact ih0 _ _ _)
   | (with_reducible exact ih1 _ _ _ _)
   | (with_reducible exact ih2 _ _ _ _ _)
   | (with_reducible exact ih3 _ _ _)
   | (with_reducible exact r14_Valid.mono _ _ _)
   | (with_reducible exact r14_table.mono _ _ _)
   | (with_reducible exact LeO.refl _)
   | (with_reducible exact LeO.none _)
   | (with_reducible refine LeO.ite ?_ ?_)
   | (with_reducible refine LeO.bind ?_ (fun _ => ?_))
   | exact LeO.none _
   | refine LeO.ite ?_ ?_
   | refine LeO.bind ?_ (fun _ => ?_)
  ·intro y0 y1 y2 y3 y4
   unfold r14_Close.l2
   repeat' first
   | (with_reducible exact ih0 _ _ _)
   | (with_reducible exact ih1 _ _ _ _)
   | (with_reducible exact ih2 _ _ _ _ _)
   | (with_reducible exact ih3 _ _ _)
   | (with_reducible exact r14_Valid.mono _ _ _)
   | (with_reducible exact r14_table.mono _ _ _)
   | (with_reducible exact LeO.refl _)
   | (with_reducible exact LeO.none _)
   | (with_reducible refine LeO.ite ?_ ?_)
   | (with_reducible refine LeO.bind ?_ (fun _ => ?_))
   | exact LeO.none _
   | refine LeO.ite ?_ ?_
   | refine LeO.bind ?_ (fun _ => ?_)
  ·intro y0 y1 y2
   unfold r14_Close.l3
   repeat' first
   | (with_reducible exact ih0 _ _ _)
   | (with_reducible exact ih1 _ _ _ _)
   | (with_reducible exact ih2 _ _ _ _ _)
   | (with_reducible exact ih3 _ _ _)
   | (with_reducible exact r14_Valid.mono _ _ _)
   | (with_reducible exact r14_table.mono _ _ _)
   | (with_reducible exact LeO.refl _)
   | (with_reducible exact LeO.none _)
   | (with_reducible refine LeO.ite ?_ ?_)
   | (with_reducible refine LeO.bind ?_ (fun _ => ?_))
   | exact LeO.none _
   | refine LeO.ite ?_ ?_
   | refine LeO.bind ?_ (fun _ => ?_)
theorem r14_Close.mono : ∀ a0 a1 k, LeO (r14_Close.f k a0 a1) (r14_Close.f (k + 1) a0 a1) := by
 intro a0 a1 k
 obtain ⟨ih0, ih1, ih2, ih3⟩ := r14_Close.mono_l k
 unfold r14_Close.f
 repeat' first
   | (with_reducible exact ih0 _ _ _)
   | (with_reducible exact ih1 _ _ _ _)
   | (with_reducible exact ih2 _ _ _ _ _)
   | (with_reducible exact ih3 _ _ _)
   | (with_reducible exact r14_Valid.mono _ _ _)
   | (with_reducible exact r14_table.mono _ _ _)
   | (with_reducible exact LeO.refl _)
   | (with_reducible exact LeO.none _)
   | (with_reducible refine LeO.ite ?_ ?_)
   | (with_reducible refine LeO.bind ?_ (fun _ => ?_))
   | exact LeO.none _
   | refine LeO.ite ?_ ?_
   | refine LeO.bind ?_ (fun _ => ?_)
def r14_Close.T15 : Bool × List (List Nat × List Nat) := (true, [([], []), ([], []), ([0, 1], [0, 1]), ([2], [2]), ([], []), ([], []), ([], []), ([5, 6], [5, 6]), ([7], [7]), ([], []), ([8, 9], [8, 9]), ([10], [10]), ([], []), ([], []), ([12, 13], [12, 13]), ([14], [14]), ([], []), ([15, 16], [15, 16]), ([17], [17]), ([], []), ([], []), ([19, 20], [19, 20]), ([21], [21]), ([], []), ([22, 23], [22, 23]), ([24], [24]), ([18, 25], [18, 25]), ([11, 26], [11, 26]), ([3, 4, 0, 1, 2, 3, 4, 5, 6, 7, 8, 9, 10, 11, 12, 13, 14, 15, 16, 17, 18, 19, 20, 21, 22, 23, 24, 25, 26, 27], [3, 4]), ([28, 27, 0, 1, 2, 3, 4, 5, 6, 7, 8, 9, 10, 11, 12, 13, 14, 15, 16, 17, 18, 19, 20, 21, 22, 23, 24, 25, 26, 27], [27, 28])])
def r14_Close.B15 : List Nat := [0, 0, 3, 7, 0, 0, 0, 96, 224, 0, 992, 2016, 0, 0, 12288, 28672, 0, 126976, 258048, 0, 0, 1572864, 3670016, 0, 16252928, 33030144, 67104768, 134217696, 268435455, 536870911]
theorem r14_Close.tab15 : rtab .any (opsOf Try.f14 15) = r14_Close.T15 := by kernel_rfl
theorem r14_Close.bits15 : waitsOk r14_Close.T15.2 r14_Close.B15 = true := by kernel_rfl
set_option maxHeartbeats 8000000 in
set_option maxRecDepth 100000 in
theorem r14_Close.calls (k : Nat) (a0 : Int) (A1 : Option Addr) (c1 : Nat) (l1 : List (S54)) (r1 : List (List Int)) (r2 : Int) (w : World) (hr1 : Kd.C k54 w A1 l1.length l1) (hc1 : l1.length ≤ c1) (h : r14_Close.f k a0 l1 = some (r1, r2)) :
  Calls Try.prog 14 #[.int .i64 a0, .slice A1 l1.length c1] w fun e w' => ∃ v0_ : Value, e = .returned (.tuple #[v0_, .int .i64 r2]) ∧ Kd.S (Kd.slice 3 (Kd.int .i64)) 22 w' w.heap.size (fun _ => True) v0_ r1 ∧ Below w.heap.size w w' := by
 have HR1 := Aside0.mk hr1
 have HC1 := Aside0.mk hc1
 clear hr1 hc1
 have HB := Aside0.mk (Below.refl w.heap.size w)
 have H : ((r14_Valid.f k a0 l1).bind fun t244 => (if t244 = 0 then ((r14_table.f k a0 l1).bind fun t245 => (r14_Close.l0 k a0 t245 0)) else (some (([] : List (List Int)), t244)))) = some (r1, r2) := h
 clear h
 replace H := Option.bind_eq_some_iff.mp H
 obtain ⟨t244, A30, H⟩ := H
 replace H : (if t244 = 0 then ((r14_table.f k a0 l1).bind fun t245 => (r14_Close.l0 k a0 t245 0)) else (some (([] : List (List Int)), t244))) = some (r1, r2) := H
 have A3 := Aside0.mk A30
 clear A30
 by_cases c4 : t244 = 0
 ·rw [if_pos c4] at H
  have c4b0 : (t244 == 0) = true := beq_iff_eq.mpr c4
  have c4b1 : (t244 != 0) = false := bne_eq_false_iff_eq.mpr c4
  clear c4
  replace H := Option.bind_eq_some_iff.mp H
  obtain ⟨t245, A50, H⟩ := H
  replace H : (r14_Close.l0 k a0 t245 0) = some (r1, r2) := H
  have A5 := Aside0.mk A50
  clear A50
  have H' := Aside0.mk H
  clear H
  go_enter Try.func14, Try.ntmps14
  go_wp2_with (first | ((with_reducible refine gate_callee (f := 30) rfl ?_); refine goesL_ (some 14) rfl rfl Try.func30 (by kernel_rfl) rfl #[.int .i64 a0, .slice A1 l1.length c1] rfl (by (try simp only [List.map_toArray, List.map_cons, List.map_nil]); first | done | rfl | (simp only [List.length_drop, List.length_take]; rfl)) ?_; (with_reducible refine (r14_Valid.calls k a0 _ _ l1 t244 _ ?side1 ?side2 A3.out).mono ?_); (case side1 => repeat (first | exact HR1.out | (with_reducible refine Kd.C_alloc ?_ _) | (with_reducible refine Kd.C_drewN ?_ _) | (with_reducible refine Kd.C_drew ?_))); (case side2 => exact HC1.out); rintro e w6 ⟨rfl, hb⟩; refine ⟨_, rfl, ?_⟩; have n0_ := Aside0.mk (below_step (by repeat (first | (with_reducible first | exact HB.out | apply below_alloc | apply pw_below_drewN | apply below_drew1) | exact HB.out)) hb); clear HB; have HB := n0_; clear n0_; (try clear hb); (try clear hb2); (try clear hk); (try clear hi)) | ((with_reducible refine gate_callee (f := 31) rfl ?_); refine goesL_ (some 20) rfl rfl Try.func31 (by kernel_rfl) rfl #[.int .i64 a0, .slice A1 l1.length c1] rfl (by (try simp only [List.map_toArray, List.map_cons, List.map_nil]); first | done | rfl | (simp only [List.length_drop, List.length_take]; rfl)) ?_; (with_reducible refine (r14_table.calls k a0 _ _ l1 t245 _ ?side1 ?side2 A5.out).mono ?_); (case side1 => repeat (first | exact (Kd.C_below HR1.out HB.out) | (with_reducible refine Kd.C_alloc ?_ _) | (with_reducible refine Kd.C_drewN ?_ _) | (with_reducible refine Kd.C_drew ?_))); (case side2 => exact HC1.out); rintro e w7 ⟨v246, rfl, ho0, hb⟩; refine ⟨_, rfl, ?_⟩; have n0_ := Aside0.mk (Kd.S_lower ho0 (below_size (by repeat (first | (with_reducible first | exact HB.out | apply below_alloc | apply pw_below_drewN | apply below_drew1) | exact HB.out)))); have n1_ := Aside0.mk (below_step (by repeat (first | (with_reducible first | exact HB.out | apply below_alloc | apply pw_below_drewN | apply below_drew1) | exact HB.out)) hb); clear HB; have HO247 := n0_; have HB := n1_; clear n0_ n1_; (try clear hb); (try clear hb2); (try clear hk); (try clear hi); (try clear ho0)))
  go_loopg [8] k (fun kq v8 w' => ∃ (x7_1 : List (List Int)) (x8_1 : Int), v8 = .int .i64 x8_1 ∧ Aside0 (r14_Close.l0 kq a0 x7_1 x8_1 = some (r1, r2)) ∧ Aside0 (kq ≤ k) ∧ Aside0 (Kd.S (Kd.slice 3 (Kd.int .i64)) 22 w' w.heap.size (fun _ => True) v246 x7_1) ∧ Aside0 (Below w.heap.size w w'))
  case atStart => exact ⟨(t245), (0), (by first | rfl | (simp; done) | (simp [*]; done)), H', ⟨Nat.le_refl _⟩, ⟨by (with_reducible repeat (first | apply Kd.S_alloc | apply Kd.S_drewN | apply Kd.S_drew)); exact HO247.out⟩, ⟨by repeat (first | (with_reducible first | exact HB.out | apply below_alloc | apply pw_below_drewN | apply below_drew1) | exact HB.out)⟩⟩
  case round =>
   clear H'
   try clear c1
   try clear p2
   try clear c3
   try clear c4
   try clear c4b0
   try clear c4b1
   obtain ⟨x7_1, x8_1, rfl, HA, HK1, HO_7, HB⟩ := hrel
   cases gk with
   | zero => exact absurd HA.out (by simp [r14_Close.l0])
   | succ k1 =>
    have H := HA.out
    clear HA
    simp only [r14_Close.l0] at H
    by_cases c8 : x8_1 ≤ a0
    ·rw [if_pos c8] at H
     have c8b0 : decide (x8_1 ≤ a0) = true := decide_eq_true c8
     clear c8
     have H' := Aside0.mk H
     clear H
     go_wp2
     go_loopg [9] k1 (fun kq v9 w' => ∃ (x7_2 : List (List Int)) (x9_2 : Int), v9 = .int .i64 x9_2 ∧ Aside0 (r14_Close.l1 kq a0 x7_2 x8_1 x9_2 = some (r1, r2)) ∧ Aside0 (kq ≤ k1) ∧ Aside0 (Kd.S (Kd.slice 3 (Kd.int .i64)) 22 w' w.heap.size (fun _ => True) v246 x7_2) ∧ Aside0 (Below w.heap.size w w'))
     case atStart => exact ⟨(x7_1), (0), (by first | rfl | (simp; done) | (simp [*]; done)), H', ⟨Nat.le_refl _⟩, ⟨by (with_reducible repeat (first | apply Kd.S_alloc | apply Kd.S_drewN | apply Kd.S_drew)); exact HO_7.out⟩, ⟨by repeat (first | (with_reducible first | exact HB.out | apply below_alloc | apply pw_below_drewN | apply below_drew1) | exact HB.out)⟩⟩
     case round =>
      clear H'
      try clear c1
      try clear p2
      try clear c3
      try clear c4
      try clear c4b0
      try clear c4b1
      try clear c8
      try clear c8b0
      try clear p2
      obtain ⟨x7_2, x9_2, rfl, HA, HK2, HO_7, HB⟩ := hrel
      cases gk with
      | zero => exact absurd HA.out (by simp [r14_Close.l1])
      | succ k2 =>
       have H := HA.out
       clear HA
       simp only [r14_Close.l1] at H
       by_cases c9 : x9_2 ≤ a0
       ·rw [if_pos c9] at H
        have c9b0 : decide (x9_2 ≤ a0) = true := decide_eq_true c9
        clear c9
        have H' := Aside0.mk H
        clear H
        go_wp2
        go_loopg [10] k2 (fun kq v10 w' => ∃ (x7_3 : List (List Int)) (x10_3 : Int), v10 = .int .i64 x10_3 ∧ Aside0 (r14_Close.l2 kq a0 x7_3 x8_1 x9_2 x10_3 = some (r1, r2)) ∧ Aside0 (kq ≤ k2) ∧ Aside0 (Kd.S (Kd.slice 3 (Kd.int .i64)) 22 w' w.heap.size (fun _ => True) v246 x7_3) ∧ Aside0 (Below w.heap.size w w'))
        case atStart => exact ⟨(x7_2), (0), (by first | rfl | (simp; done) | (simp [*]; done)), H', ⟨Nat.le_refl _⟩, ⟨by (with_reducible repeat (first | apply Kd.S_alloc | apply Kd.S_drewN | apply Kd.S_drew)); exact HO_7.out⟩, ⟨by repeat (first | (with_reducible first | exact HB.out | apply below_alloc | apply pw_below_drewN | apply below_drew1) | exact HB.out)⟩⟩
        case round =>
         clear H'
         try clear c1
         try clear p2
         try clear c3
         try clear c4
         try clear c4b0
         try clear c4b1
         try clear c8
         try clear c8b0
         try clear c9
         try clear c9b0
         try clear p2
         obtain ⟨x7_3, x10_3, rfl, HA, HK3, HO_7, HB⟩ := hrel
         cases gk with
         | zero => exact absurd HA.out (by simp [r14_Close.l2])
         | succ k3 =>
          have H := HA.out
          clear HA
          simp only [r14_Close.l2] at H
          by_cases c10 : x10_3 ≤ a0
          ·rw [if_pos c10] at H
           have c10b0 : decide (x10_3 ≤ a0) = true := decide_eq_true c10
           clear c10
           by_cases c11 : 0 ≤ x9_2
           case neg => rw [if_neg c11] at H; exact absurd H (by simp)
           rw [if_pos c11] at H
           have c11b0 : decide (0 ≤ x9_2) = true := decide_eq_true c11
           clear c11
           by_cases c12 : x9_2 < (x7_3.length : Int)
           case neg => rw [if_neg c12] at H; exact absurd H (by simp)
           rw [if_pos c12] at H
           have c12b0 : decide (x9_2 < (x7_3.length : Int)) = true := decide_eq_true c12
           clear c12
           by_cases c13 : 0 ≤ x8_1
           case neg => rw [if_neg c13] at H; exact absurd H (by simp)
           rw [if_pos c13] at H
           have c13b0 : decide (0 ≤ x8_1) = true := decide_eq_true c13
           clear c13
           by_cases c14 : x8_1 < ((rd_L4 x7_3 x9_2).length : Int)
           case neg => rw [if_neg c14] at H; exact absurd H (by simp)
           rw [if_pos c14] at H
           have c14b0 : decide (x8_1 < ((rd_L4 x7_3 x9_2).length : Int)) = true := decide_eq_true c14
           clear c14
           by_cases c15 : (rd (rd_L4 x7_3 x9_2) x8_1) < 1099511627776
           ·rw [if_pos c15] at H
            have c15b0 : decide ((rd (rd_L4 x7_3 x9_2) x8_1) < 1099511627776) = true := decide_eq_true c15
            clear c15
            by_cases c16 : x8_1 < (x7_3.length : Int)
            case neg => rw [if_neg c16] at H; exact absurd H (by simp)
            rw [if_pos c16] at H
            have c16b0 : decide (x8_1 < (x7_3.length : Int)) = true := decide_eq_true c16
            clear c16
            by_cases c17 : 0 ≤ x10_3
            case neg => rw [if_neg c17] at H; exact absurd H (by simp)
            rw [if_pos c17] at H
            have c17b0 : decide (0 ≤ x10_3) = true := decide_eq_true c17
            clear c17
            by_cases c18 : x10_3 < ((rd_L4 x7_3 x8_1).length : Int)
            case neg => rw [if_neg c18] at H; exact absurd H (by simp)
            rw [if_pos c18] at H
            have c18b0 : decide (x10_3 < ((rd_L4 x7_3 x8_1).length : Int)) = true := decide_eq_true c18
            clear c18
            by_cases c19 : (rd (rd_L4 x7_3 x8_1) x10_3) < 1099511627776
            ·rw [if_pos c19] at H
             have c19b0 : decide ((rd (rd_L4 x7_3 x8_1) x10_3) < 1099511627776) = true := decide_eq_true c19
             clear c19
             by_cases c20 : x10_3 < ((rd_L4 x7_3 x9_2).length : Int)
             case neg => rw [if_neg c20] at H; exact absurd H (by simp)
             rw [if_pos c20] at H
             have c20b0 : decide (x10_3 < ((rd_L4 x7_3 x9_2).length : Int)) = true := decide_eq_true c20
             clear c20
             obtain ⟨ji21, hji21⟩ : ∃ j_ : Int, (mn (rd (rd_L4 x7_3 x9_2) x10_3) (wrap64 ((rd (rd_L4 x7_3 x9_2) x8_1) + (rd (rd_L4 x7_3 x8_1) x10_3)))) = j_ := ⟨_, rfl⟩
             replace H : (r14_Close.l2 k3 a0 (x7_3.set (x9_2 : Int).toNat ((rd_L4 x7_3 x9_2).set (x10_3 : Int).toNat (ji21))) x8_1 x9_2 (wrap64 (x10_3 + 1))) = some (r1, r2) := by first | (rw [hji21] at H; exact H) | (simp only [hji21] at H ⊢; exact H)
             have hji21_ : (if (wrap64 ((rd (rd_L4 x7_3 x9_2) x8_1) + (rd (rd_L4 x7_3 x8_1) x10_3))) < (rd (rd_L4 x7_3 x9_2) x10_3) then (wrap64 ((rd (rd_L4 x7_3 x9_2) x8_1) + (rd (rd_L4 x7_3 x8_1) x10_3))) else (rd (rd_L4 x7_3 x9_2) x10_3)) = ji21 := hji21
             obtain ⟨y259, hy259⟩ : ∃ y_ : List Int, y_ = ((rd_L4 x7_3 x9_2).set (x10_3 : Int).toNat (ji21)) := ⟨_, rfl⟩
             replace H : (r14_Close.l2 k3 a0 (x7_3.set (x9_2 : Int).toNat y259) x8_1 x9_2 (wrap64 (x10_3 + 1))) = some (r1, r2) := by first | (rw [hy259]; with_reducible exact H) | (have H2_ := (Option.bind_some _ _).symm.trans H; rw [hy259]; with_reducible exact H2_) | (have H2_ := (Option.bind_some _ _).symm.trans H; with_reducible exact H2_) | with_reducible exact H | (rw [hy259]; exact H) | exact H
             have Ny259 := Aside0.mk hy259
             clear hy259
             obtain ⟨y261, hy261⟩ : ∃ y_ : List (List Int), y_ = (x7_3.set (x9_2 : Int).toNat y259) := ⟨_, rfl⟩
             replace H : (r14_Close.l2 k3 a0 y261 x8_1 x9_2 (wrap64 (x10_3 + 1))) = some (r1, r2) := by first | (rw [hy261]; with_reducible exact H) | (have H2_ := (Option.bind_some _ _).symm.trans H; rw [hy261]; with_reducible exact H2_) | (have H2_ := (Option.bind_some _ _).symm.trans H; with_reducible exact H2_) | with_reducible exact H | (rw [hy261]; exact H) | exact H
             have Ny261 := Aside0.mk hy261
             clear hy261
             have H' := Aside0.mk H
             clear H
             obtain ⟨Ao23, co23, eo23⟩ := Kd.S_slice HO_7.out
             subst eo23
             have p248 : 0 ≤ (x9_2 : Int) := of_decide_eq_true (by with_reducible assumption)
             have q248 : x9_2 < (x7_3.length : Int) := of_decide_eq_true (by with_reducible assumption)
             obtain ⟨ad248, A248_0, c248_0, e248, hx248_0, hl248_0, hi248_0⟩ := at_L4 (Kd.S_reads' HO_7.out).2.2 x9_2 p248 q248
             cases e248
             obtain ⟨ce248, hce248, hMe248, hcc248⟩ := Kd.S_get HO_7.out [] x9_2 p248 (by first | exact q248 | exact of_decide_eq_true (by with_reducible assumption) | (have e_ := (Kd.S_reads' HO_7.out).1; omega))
             obtain ⟨ve248_0, rfl, ge248_0⟩ := hMe248
             have hv248_0 := hcc248 0 _ rfl
             rw [Nat.add_zero, show ((Kd.slice 3 (Kd.int .i64))).sz = 1 from rfl, Nat.mul_one] at hv248_0
             replace hv248_0 := Option.some.inj (hv248_0.symm.trans hx248_0)
             rw [hv248_0] at ge248_0
             have HL248_0 := Aside0.mk (show Kd.R (Kd.int .i64) 3 _ _ _ _ (rd_L4 x7_3 x9_2) from ge248_0)
             clear hv248_0 ge248_0
             have HX248_0 := Aside0.mk hx248_0
             clear hcc248 hce248
             have HR248_0 := Aside0.mk hi248_0
             have HC248_0 := Aside0.mk hl248_0
             clear hi248_0 hl248_0
             replace p248 := eq_true p248
             replace q248 := eq_true q248
             have p249 : 0 ≤ (x8_1 : Int) := of_decide_eq_true (by with_reducible assumption)
             have q249 : x8_1 < ((rd_L4 x7_3 x9_2).length : Int) := of_decide_eq_true (by with_reducible assumption)
             obtain ⟨ad249, e249, hx249_0⟩ := Kd.at_int (by repeat (first | (with_reducible exact HR248_0.out) | (with_reducible refine Kd.C_alloc ?_ _) | (with_reducible refine Kd.C_drewN ?_ _) | (with_reducible refine Kd.C_drew ?_) | exact HR248_0.out)) x8_1 p249 q249
             cases e249
             replace p249 := eq_true p249
             replace q249 := eq_true q249
             have p250 : 0 ≤ (x8_1 : Int) := of_decide_eq_true (by with_reducible assumption)
             have q250 : x8_1 < (x7_3.length : Int) := of_decide_eq_true (by with_reducible assumption)
             obtain ⟨ad250, A250_0, c250_0, e250, hx250_0, hl250_0, hi250_0⟩ := at_L4 (Kd.S_reads' HO_7.out).2.2 x8_1 p250 q250
             obtain rfl : ad248 = ad250 := (by injection e250)
             obtain ⟨ce250, hce250, hMe250, hcc250⟩ := Kd.S_get HO_7.out [] x8_1 p250 (by first | exact q250 | exact of_decide_eq_true (by with_reducible assumption) | (have e_ := (Kd.S_reads' HO_7.out).1; omega))
             obtain ⟨ve250_0, rfl, ge250_0⟩ := hMe250
             have hv250_0 := hcc250 0 _ rfl
             rw [Nat.add_zero, show ((Kd.slice 3 (Kd.int .i64))).sz = 1 from rfl, Nat.mul_one] at hv250_0
             replace hv250_0 := Option.some.inj (hv250_0.symm.trans hx250_0)
             rw [hv250_0] at ge250_0
             have HL250_0 := Aside0.mk (show Kd.R (Kd.int .i64) 3 _ _ _ _ (rd_L4 x7_3 x8_1) from ge250_0)
             clear hv250_0 ge250_0
             have HX250_0 := Aside0.mk hx250_0
             clear hcc250 hce250
             have HR250_0 := Aside0.mk hi250_0
             have HC250_0 := Aside0.mk hl250_0
             clear hi250_0 hl250_0
             replace p250 := eq_true p250
             replace q250 := eq_true q250
             have p251 : 0 ≤ (x10_3 : Int) := of_decide_eq_true (by with_reducible assumption)
             have q251 : x10_3 < ((rd_L4 x7_3 x8_1).length : Int) := of_decide_eq_true (by with_reducible assumption)
             obtain ⟨ad251, e251, hx251_0⟩ := Kd.at_int (by repeat (first | (with_reducible exact HR250_0.out) | (with_reducible refine Kd.C_alloc ?_ _) | (with_reducible refine Kd.C_drewN ?_ _) | (with_reducible refine Kd.C_drew ?_) | exact HR250_0.out)) x10_3 p251 q251
             cases e251
             replace p251 := eq_true p251
             replace q251 := eq_true q251
             try go_wp2
             have n0_ := Aside0.mk (Kd.S_drew HO_7.out)
             have n1_ := Aside0.mk (Kd.R_drew HL248_0.out)
             have n2_ := Aside0.mk (Kd.R_drew HL250_0.out)
             have n3_ := Aside0.mk (Kd.C_drew HR248_0.out)
             have n4_ := Aside0.mk (Kd.C_drew HR250_0.out)
             have n5_ := Aside0.mk (below_drew1 HB.out)
             clear HO_7
             clear HL248_0
             clear HL250_0
             clear HR248_0
             clear HR250_0
             clear HB
             have HO_7 := n0_
             have HL248_0 := n1_
             have HL250_0 := n2_
             have HR248_0 := n3_
             have HR250_0 := n4_
             have HB := n5_
             clear n0_ n1_ n2_ n3_ n4_ n5_
             have p252 : 0 ≤ (x9_2 : Int) := of_decide_eq_true (by with_reducible assumption)
             have q252 : x9_2 < (x7_3.length : Int) := of_decide_eq_true (by with_reducible assumption)
             obtain ⟨ad252, A252_0, c252_0, e252, hx252_0, hl252_0, hi252_0⟩ := at_L4 (Kd.S_reads' HO_7.out).2.2 x9_2 p252 q252
             obtain rfl : ad248 = ad252 := (by injection e252)
             obtain ⟨ce252, hce252, hMe252, hcc252⟩ := Kd.S_get HO_7.out [] x9_2 p252 (by first | exact q252 | exact of_decide_eq_true (by with_reducible assumption) | (have e_ := (Kd.S_reads' HO_7.out).1; omega))
             obtain ⟨ve252_0, rfl, ge252_0⟩ := hMe252
             have hv252_0 := hcc252 0 _ rfl
             rw [Nat.add_zero, show ((Kd.slice 3 (Kd.int .i64))).sz = 1 from rfl, Nat.mul_one] at hv252_0
             replace hv252_0 := Option.some.inj (hv252_0.symm.trans hx252_0)
             rw [hv252_0] at ge252_0
             have HL252_0 := Aside0.mk (show Kd.R (Kd.int .i64) 3 _ _ _ _ (rd_L4 x7_3 x9_2) from ge252_0)
             clear hv252_0 ge252_0
             have HX252_0 := Aside0.mk hx252_0
             clear hcc252 hce252
             have HR252_0 := Aside0.mk hi252_0
             have HC252_0 := Aside0.mk hl252_0
             clear hi252_0 hl252_0
             replace p252 := eq_true p252
             replace q252 := eq_true q252
             have p253 : 0 ≤ (x9_2 : Int) := of_decide_eq_true (by with_reducible assumption)
             have q253 : x9_2 < (x7_3.length : Int) := of_decide_eq_true (by with_reducible assumption)
             obtain ⟨ad253, A253_0, c253_0, e253, hx253_0, hl253_0, hi253_0⟩ := at_L4 (Kd.S_reads' HO_7.out).2.2 x9_2 p253 q253
             obtain rfl : ad248 = ad253 := (by injection e253)
             obtain ⟨ce253, hce253, hMe253, hcc253⟩ := Kd.S_get HO_7.out [] x9_2 p253 (by first | exact q253 | exact of_decide_eq_true (by with_reducible assumption) | (have e_ := (Kd.S_reads' HO_7.out).1; omega))
             obtain ⟨ve253_0, rfl, ge253_0⟩ := hMe253
             have hv253_0 := hcc253 0 _ rfl
             rw [Nat.add_zero, show ((Kd.slice 3 (Kd.int .i64))).sz = 1 from rfl, Nat.mul_one] at hv253_0
             replace hv253_0 := Option.some.inj (hv253_0.symm.trans hx253_0)
             rw [hv253_0] at ge253_0
             have HL253_0 := Aside0.mk (show Kd.R (Kd.int .i64) 3 _ _ _ _ (rd_L4 x7_3 x9_2) from ge253_0)
             clear hv253_0 ge253_0
             have HX253_0 := Aside0.mk hx253_0
             clear hcc253 hce253
             have HR253_0 := Aside0.mk hi253_0
             have HC253_0 := Aside0.mk hl253_0
             clear hi253_0 hl253_0
             replace p253 := eq_true p253
             replace q253 := eq_true q253
             have ea_ := Option.some.inj (hx252_0.symm.trans hx253_0)
             injection ea_ with ea_ en_ ec_
             subst ea_
             subst ec_
             clear en_
             have p254 : 0 ≤ (x10_3 : Int) := of_decide_eq_true (by with_reducible assumption)
             have q254 : x10_3 < ((rd_L4 x7_3 x9_2).length : Int) := of_decide_eq_true (by with_reducible assumption)
             obtain ⟨ad254, e254, hx254_0⟩ := Kd.at_int (by repeat (first | (with_reducible exact HR253_0.out) | (with_reducible refine Kd.C_alloc ?_ _) | (with_reducible refine Kd.C_drewN ?_ _) | (with_reducible refine Kd.C_drew ?_) | exact HR253_0.out)) x10_3 p254 q254
             cases e254
             replace p254 := eq_true p254
             replace q254 := eq_true q254
             have p255 : 0 ≤ (x9_2 : Int) := of_decide_eq_true (by with_reducible assumption)
             have q255 : x9_2 < (x7_3.length : Int) := of_decide_eq_true (by with_reducible assumption)
             obtain ⟨ad255, A255_0, c255_0, e255, hx255_0, hl255_0, hi255_0⟩ := at_L4 (Kd.S_reads' HO_7.out).2.2 x9_2 p255 q255
             obtain rfl : ad248 = ad255 := (by injection e255)
             obtain ⟨ce255, hce255, hMe255, hcc255⟩ := Kd.S_get HO_7.out [] x9_2 p255 (by first | exact q255 | exact of_decide_eq_true (by with_reducible assumption) | (have e_ := (Kd.S_reads' HO_7.out).1; omega))
             obtain ⟨ve255_0, rfl, ge255_0⟩ := hMe255
             have hv255_0 := hcc255 0 _ rfl
             rw [Nat.add_zero, show ((Kd.slice 3 (Kd.int .i64))).sz = 1 from rfl, Nat.mul_one] at hv255_0
             replace hv255_0 := Option.some.inj (hv255_0.symm.trans hx255_0)
             rw [hv255_0] at ge255_0
             have HL255_0 := Aside0.mk (show Kd.R (Kd.int .i64) 3 _ _ _ _ (rd_L4 x7_3 x9_2) from ge255_0)
             clear hv255_0 ge255_0
             have HX255_0 := Aside0.mk hx255_0
             clear hcc255 hce255
             have HR255_0 := Aside0.mk hi255_0
             have HC255_0 := Aside0.mk hl255_0
             clear hi255_0 hl255_0
             replace p255 := eq_true p255
             replace q255 := eq_true q255
             have ea_ := Option.some.inj (hx252_0.symm.trans hx255_0)
             injection ea_ with ea_ en_ ec_
             subst ea_
             subst ec_
             clear en_
             have p256 : 0 ≤ (x8_1 : Int) := of_decide_eq_true (by with_reducible assumption)
             have q256 : x8_1 < ((rd_L4 x7_3 x9_2).length : Int) := of_decide_eq_true (by with_reducible assumption)
             obtain ⟨ad256, e256, hx256_0⟩ := Kd.at_int (by repeat (first | (with_reducible exact HR255_0.out) | (with_reducible refine Kd.C_alloc ?_ _) | (with_reducible refine Kd.C_drewN ?_ _) | (with_reducible refine Kd.C_drew ?_) | exact HR255_0.out)) x8_1 p256 q256
             cases e256
             replace p256 := eq_true p256
             replace q256 := eq_true q256
             have p257 : 0 ≤ (x8_1 : Int) := of_decide_eq_true (by with_reducible assumption)
             have q257 : x8_1 < (x7_3.length : Int) := of_decide_eq_true (by with_reducible assumption)
             obtain ⟨ad257, A257_0, c257_0, e257, hx257_0, hl257_0, hi257_0⟩ := at_L4 (Kd.S_reads' HO_7.out).2.2 x8_1 p257 q257
             obtain rfl : ad248 = ad257 := (by injection e257)
             obtain ⟨ce257, hce257, hMe257, hcc257⟩ := Kd.S_get HO_7.out [] x8_1 p257 (by first | exact q257 | exact of_decide_eq_true (by with_reducible assumption) | (have e_ := (Kd.S_reads' HO_7.out).1; omega))
             obtain ⟨ve257_0, rfl, ge257_0⟩ := hMe257
             have hv257_0 := hcc257 0 _ rfl
             rw [Nat.add_zero, show ((Kd.slice 3 (Kd.int .i64))).sz = 1 from rfl, Nat.mul_one] at hv257_0
             replace hv257_0 := Option.some.inj (hv257_0.symm.trans hx257_0)
             rw [hv257_0] at ge257_0
             have HL257_0 := Aside0.mk (show Kd.R (Kd.int .i64) 3 _ _ _ _ (rd_L4 x7_3 x8_1) from ge257_0)
             clear hv257_0 ge257_0
             have HX257_0 := Aside0.mk hx257_0
             clear hcc257 hce257
             have HR257_0 := Aside0.mk hi257_0
             have HC257_0 := Aside0.mk hl257_0
             clear hi257_0 hl257_0
             replace p257 := eq_true p257
             replace q257 := eq_true q257
             have p258 : 0 ≤ (x10_3 : Int) := of_decide_eq_true (by with_reducible assumption)
             have q258 : x10_3 < ((rd_L4 x7_3 x8_1).length : Int) := of_decide_eq_true (by with_reducible assumption)
             obtain ⟨ad258, e258, hx258_0⟩ := Kd.at_int (by repeat (first | (with_reducible exact HR257_0.out) | (with_reducible refine Kd.C_alloc ?_ _) | (with_reducible refine Kd.C_drewN ?_ _) | (with_reducible refine Kd.C_drew ?_) | exact HR257_0.out)) x10_3 p258 q258
             cases e258
             replace p258 := eq_true p258
             replace q258 := eq_true q258
             have p22 : 0 ≤ (x10_3 : Int) := of_decide_eq_true (by with_reducible assumption)
             have q22 : (x10_3 : Int) < (((rd_L4 x7_3 x9_2).length : Int) : Int) := of_decide_eq_true (by with_reducible assumption)
             obtain ⟨go22, co22, eo22, gb22, gl22, cl22, HG22⟩ := Kd.R_form HL252_0.out (by omega)
             (first | cases eo22 | (injection eo22 with ea_ en_ ec_; (first | subst ea_ | (injection ea_ with ea_; subst ea_)); subst ec_; clear en_))
             have GB22 := Aside0.mk gb22
             have GG22 := Aside0.mk HG22
             clear gb22 gl22 HG22
             (first | simp only [add_plain] at hx256_0 | skip)
             obtain ⟨hx22_0, hf22_0⟩ := Kd.R_celln 0 HL252_0.out (x10_3 : Int) p22 q22
             replace p22 := eq_true p22
             replace q22 := eq_true q22
             have hq25 : (x9_2 : Int) < (x7_3.length : Int) := (by have h_ : (x9_2 : Int) < ((x7_3.length : Int) : Int) := of_decide_eq_true (by with_reducible assumption); first | exact h_ | (have e_ := (Kd.S_reads' HO_7.out).1; omega) | simpa only [List.length_set, List.length_set] using h_)
             obtain ⟨oki25, ce25, hcl25, hM25, hcc25, hok25, hbk25⟩ := Kd.S_borrow HO_7.out [] (x9_2 : Int) (of_decide_eq_true (by with_reducible assumption)) hq25
             obtain ⟨ve25_0, rfl, ge25_0⟩ := hM25
             have hv25 := hcc25 0 _ rfl
             rw [Nat.add_zero, show ((Kd.slice 3 (Kd.int .i64))).sz = 1 from rfl, Nat.mul_one] at hv25
             replace hv25 := Option.some.inj (hv25.symm.trans HX252_0.out)
             subst hv25
             clear hcc25 hcl25
             replace ge25_0 := (show Kd.R (Kd.int .i64) 3 _ _ _ _ (rd_L4 x7_3 x9_2) from ge25_0)
             have HP25 := Kd.R_putg ge25_0 (x10_3 : Int) ji21
             rw [← Ny259.out] at HP25
             have HS25 := hbk25 HP25.2 (fun k_ e_ => by injection e_ with e_; subst e_; exact ge25_0.1 _ rfl) (x' := y259) (Kd.M_row HP25.1)
             rw [← Ny261.out] at HS25
             have HQ25 := Aside0.mk HS25
             clear HP25 HS25 hbk25 hok25
             (first | simp only [add_plain] at hx254_0 | skip)
             (first | simp only [add_plain] at hx256_0 | skip)
             refine start_ (n := 30) (S := fun w' => w'.cell? (ad248.add (x9_2).toNat) = some (.slice (some ⟨go22, 0, none⟩) (rd_L4 x7_3 x9_2).length c252_0) ∧ w'.cell? (ad248.add (x9_2).toNat) = some (.slice (some ⟨go22, 0, none⟩) (rd_L4 x7_3 x9_2).length c252_0) ∧ w'.cell? ⟨go22, (x10_3).toNat, none⟩ = some (.int .i64 (rd (rd_L4 x7_3 x9_2) x10_3)) ∧ w'.cell? (ad248.add (x9_2).toNat) = some (.slice (some ⟨go22, 0, none⟩) (rd_L4 x7_3 x9_2).length c252_0) ∧ w'.cell? ⟨go22, (x8_1).toNat, none⟩ = some (.int .i64 (rd (rd_L4 x7_3 x9_2) x8_1)) ∧ w'.cell? (ad248.add (x8_1).toNat) = some (.slice (some ad258) (rd_L4 x7_3 x8_1).length c257_0) ∧ w'.cell? (ad258.add (x10_3).toNat) = some (.int .i64 (rd (rd_L4 x7_3 x8_1) x10_3))) (ds := [29]) #[false, false, false, false, false, false, false, false, false, false, false, false, false, false, false, false, false, false, false, false, false, false, false, false, false, false, false, false, false, false] (by kernel_rfl) rfl rfl ⟨hx252_0, hx253_0, hx254_0, hx255_0, hx256_0, hx257_0, hx258_0⟩ (fun hHeld => ?_); refine with_tabW r14_Close.tab15 r14_Close.bits15 (fun HT_ HW_ => ?_)
             generalize wr.drew = w24 at HO_7 HL248_0 HL250_0 HR248_0 HR250_0 HB GG22 HL252_0 HL253_0 HL255_0 HL257_0 HQ25 HR252_0 HR253_0 HR255_0 HR257_0 HX252_0 HX253_0 HX255_0 HX257_0 hf22_0 hx22_0 hx252_0 hx253_0 hx254_0 hx255_0 hx256_0 hx257_0 hx258_0 hHeld ⊢
             refine pS_ 0 (some 54) rfl rfl HT_.out (by kernel_rfl) ?_ (fun _ _ _ h => h) (by rfl) ?_ ?_ ?_ ?_
             rotate_left
             ·intro w'
              go_simp
              with_reducible rfl
             rotate_left
             ·simp only [Act.put, spA]
              rfl
             refine pS_ 1 (some 55) rfl rfl HT_.out (by kernel_rfl) ?_ (fun _ _ _ h => h) (by rfl) ?_ ?_ ?_ ?_
             rotate_left
             ·intro w'
              go_simp
              with_reducible rfl
             rotate_left
             ·simp only [Act.put, spA]
              rfl
             refine pS_ 2 (some 56) rfl rfl HT_.out (by kernel_rfl) ?_ (fun _ _ _ h => h) (by rfl) ?_ ?_ ?_ ?_
             rotate_left
             ·intro w'
              go_simp
              with_reducible rfl
             rotate_left
             ·simp only [Act.put, spA]
              rfl
             refine pS_ 4 (some 58) rfl rfl HT_.out (by kernel_rfl) ?_ (fun _ _ _ h => h) (by rfl) ?_ ?_ ?_ ?_
             rotate_left
             ·intro w'
              go_simp
              with_reducible rfl
             rotate_left
             ·simp only [Act.put, spA]
              rfl
             refine pS_ 5 (some 59) rfl rfl HT_.out (by kernel_rfl) ?_ (fun _ _ _ h => h) (by rfl) ?_ ?_ ?_ ?_
             rotate_left
             ·intro w'
              go_simp
              with_reducible rfl
             rotate_left
             ·simp only [Act.put, spA]
              rfl
             refine pS_ 6 (some 60) rfl rfl HT_.out (by kernel_rfl) ?_ (fun _ _ _ h => h) (by rfl) ?_ ?_ ?_ ?_
             rotate_left
             ·intro w'
              go_simp
              with_reducible rfl
             rotate_left
             ·simp only [Act.put, spA]
              rfl
             refine pS_ 7 (some 61) rfl rfl HT_.out (by kernel_rfl) ?_ (fun _ _ _ h => h) (by rfl) ?_ ?_ ?_ ?_
             rotate_left
             ·intro w'
              go_simp
              with_reducible rfl
             rotate_left
             ·simp only [Act.put, spA]
              rfl
             refine pS_ 9 (some 63) rfl rfl HT_.out (by kernel_rfl) ?_ (fun _ _ _ h => h) (by rfl) ?_ ?_ ?_ ?_
             rotate_left
             ·intro w'
              go_simp
              with_reducible rfl
             rotate_left
             ·simp only [Act.put, spA]
              rfl
             refine pS_ 12 (some 66) rfl rfl HT_.out (by kernel_rfl) ?_ (fun _ _ _ h => h) (by rfl) ?_ ?_ ?_ ?_
             rotate_left
             ·intro w'
              go_simp
              with_reducible rfl
             rotate_left
             ·simp only [Act.put, spA]
              rfl
             refine pS_ 13 (some 67) rfl rfl HT_.out (by kernel_rfl) ?_ (fun _ _ _ h => h) (by rfl) ?_ ?_ ?_ ?_
             rotate_left
             ·intro w'
              go_simp
              with_reducible rfl
             rotate_left
             ·simp only [Act.put, spA]
              rfl
             refine pS_ 14 (some 68) rfl rfl HT_.out (by kernel_rfl) ?_ (fun _ _ _ h => h) (by rfl) ?_ ?_ ?_ ?_
             rotate_left
             ·intro w'
              go_simp
              with_reducible rfl
             rotate_left
             ·simp only [Act.put, spA]
              rfl
             refine pS_ 16 (some 70) rfl rfl HT_.out (by kernel_rfl) ?_ (fun _ _ _ h => h) (by rfl) ?_ ?_ ?_ ?_
             rotate_left
             ·intro w'
              go_simp
              with_reducible rfl
             rotate_left
             ·simp only [Act.put, spA]
              rfl
             refine pS_ 19 (some 73) rfl rfl HT_.out (by kernel_rfl) ?_ (fun _ _ _ h => h) (by rfl) ?_ ?_ ?_ ?_
             rotate_left
             ·intro w'
              go_simp
              with_reducible rfl
             rotate_left
             ·simp only [Act.put, spA]
              rfl
             refine pS_ 20 (some 74) rfl rfl HT_.out (by kernel_rfl) ?_ (fun _ _ _ h => h) (by rfl) ?_ ?_ ?_ ?_
             rotate_left
             ·intro w'
              go_simp
              with_reducible rfl
             rotate_left
             ·simp only [Act.put, spA]
              rfl
             refine pS_ 21 (some 75) rfl rfl HT_.out (by kernel_rfl) ?_ (fun _ _ _ h => h) (by rfl) ?_ ?_ ?_ ?_
             rotate_left
             ·intro w'
              go_simp
              with_reducible rfl
             rotate_left
             ·simp only [Act.put, spA]
              rfl
             refine pS_ 23 (some 77) rfl rfl HT_.out (by kernel_rfl) ?_ (fun _ _ _ h => h) (by rfl) ?_ ?_ ?_ ?_
             rotate_left
             ·intro w'
              go_simp
              with_reducible rfl
             rotate_left
             ·simp only [Act.put, spA]
              rfl
             refine take_ (i := 3) (N := some 57) (v := ?_) (a' := ?_) #[true, true, true, true, true, true, true, true, false, true, false, false, true, true, true, false, true, false, false, true, true, true, false, true, false, false, false, false, false, false] rfl rfl (take_ofW HT_.out HW_.out (by kernel_rfl)) (fun _ _ _ h => h) (Or.inl ⟨by rfl, ?_⟩) hHeld ?_ ?_
             rotate_left
             ·rintro w' ⟨s0, s1, s2, s3, s4, s5, s6⟩
              go_simp
              with_reducible rfl
             rotate_left
             ·simp only [Act.put, spA]
              rfl
             refine take_ (i := 8) (N := some 62) (v := ?_) (a' := ?_) #[true, true, true, true, true, true, true, true, true, true, false, false, true, true, true, false, true, false, false, true, true, true, false, true, false, false, false, false, false, false] rfl rfl (take_ofW HT_.out HW_.out (by kernel_rfl)) (fun _ _ _ h => h) (Or.inl ⟨by rfl, ?_⟩) hHeld ?_ ?_
             rotate_left
             ·rintro w' ⟨s0, s1, s2, s3, s4, s5, s6⟩
              go_simp
              with_reducible rfl
             rotate_left
             ·simp only [Act.put, spA]
              rfl
             refine pS_ 10 (some 64) rfl rfl HT_.out (by kernel_rfl) ?_ (fun _ _ _ h => h) (by rfl) ?_ ?_ ?_ ?_
             rotate_left
             ·intro w'
              go_simp
              with_reducible rfl
             rotate_left
             ·simp only [Act.put, spA]
              rfl
             refine take_ (i := 11) (N := some 65) (v := ?_) (a' := ?_) #[true, true, true, true, true, true, true, true, true, true, true, true, true, true, true, false, true, false, false, true, true, true, false, true, false, false, false, false, false, false] rfl rfl (take_ofW HT_.out HW_.out (by kernel_rfl)) (fun _ _ _ h => h) (Or.inl ⟨by rfl, ?_⟩) hHeld ?_ ?_
             rotate_left
             ·rintro w' ⟨s0, s1, s2, s3, s4, s5, s6⟩
              go_simp
              with_reducible rfl
             rotate_left
             ·simp only [Act.put, spA]
              rfl
             refine take_ (i := 15) (N := some 69) (v := ?_) (a' := ?_) #[true, true, true, true, true, true, true, true, true, true, true, true, true, true, true, true, true, false, false, true, true, true, false, true, false, false, false, false, false, false] rfl rfl (take_ofW HT_.out HW_.out (by kernel_rfl)) (fun _ _ _ h => h) (Or.inl ⟨by rfl, ?_⟩) hHeld ?_ ?_
             rotate_left
             ·rintro w' ⟨s0, s1, s2, s3, s4, s5, s6⟩
              go_simp
              with_reducible rfl
             rotate_left
             ·simp only [Act.put, spA]
              rfl
             refine pS_ 17 (some 71) rfl rfl HT_.out (by kernel_rfl) ?_ (fun _ _ _ h => h) (by rfl) ?_ ?_ ?_ ?_
             rotate_left
             ·intro w'
              go_simp
              with_reducible rfl
             rotate_left
             ·simp only [Act.put, spA]
              rfl
             refine take_ (i := 18) (N := some 72) (v := ?_) (a' := ?_) #[true, true, true, true, true, true, true, true, true, true, true, true, true, true, true, true, true, true, true, true, true, true, false, true, false, false, false, false, false, false] rfl rfl (take_ofW HT_.out HW_.out (by kernel_rfl)) (fun _ _ _ h => h) (Or.inl ⟨by rfl, ?_⟩) hHeld ?_ ?_
             rotate_left
             ·rintro w' ⟨s0, s1, s2, s3, s4, s5, s6⟩
              go_simp
              with_reducible rfl
             rotate_left
             ·simp only [Act.put, spA]
              rfl
             refine take_ (i := 22) (N := some 76) (v := ?_) (a' := ?_) #[true, true, true, true, true, true, true, true, true, true, true, true, true, true, true, true, true, true, true, true, true, true, true, true, false, false, false, false, false, false] rfl rfl (take_ofW HT_.out HW_.out (by kernel_rfl)) (fun _ _ _ h => h) (Or.inl ⟨by rfl, ?_⟩) hHeld ?_ ?_
             rotate_left
             ·rintro w' ⟨s0, s1, s2, s3, s4, s5, s6⟩
              go_simp
              with_reducible rfl
             rotate_left
             ·simp only [Act.put, spA]
              rfl
             refine pS_ 24 (some 78) rfl rfl HT_.out (by kernel_rfl) ?_ (fun _ _ _ h => h) (by rfl) ?_ ?_ ?_ ?_
             rotate_left
             ·intro w'
              go_simp
              with_reducible rfl
             rotate_left
             ·simp only [Act.put, spA]
              rfl
             refine take_ (i := 25) (N := some 79) (v := ?_) (a' := ?_) #[true, true, true, true, true, true, true, true, true, true, true, true, true, true, true, true, true, true, true, true, true, true, true, true, true, true, false, false, false, false] rfl rfl (take_ofW HT_.out HW_.out (by kernel_rfl)) (fun _ _ _ h => h) (Or.inl ⟨by rfl, ?_⟩) hHeld ?_ ?_
             rotate_left
             ·rintro w' ⟨s0, s1, s2, s3, s4, s5, s6⟩
              go_simp
              with_reducible rfl
             rotate_left
             ·simp only [Act.put, spA]
              rfl
             refine pS_ 26 (some 80) rfl rfl HT_.out (by kernel_rfl) ?_ (fun _ _ _ h => h) (by rfl) ?_ ?_ ?_ ?_
             rotate_left
             ·intro w'
              go_simp
              with_reducible rfl
             rotate_left
             ·simp only [Act.put, spA]
              rfl
             refine pS_ 27 (some 81) rfl rfl HT_.out (by kernel_rfl) ?_ (fun _ _ _ h => h) (by rfl) ?_ ?_ ?_ ?_
             rotate_left
             ·intro w'
              go_simp
              with_reducible rfl
             rotate_left
             ·simp only [Act.put, spA]
              rfl
             refine pS_ 28 (some 82) rfl rfl HT_.out (by kernel_rfl) ?_ (fun _ _ _ h => h) (by rfl) ?_ ?_ ?_ ?_
             rotate_left
             ·intro w'
              go_simp
              with_reducible rfl
             rotate_left
             ·simp only [Act.put, spA]
              rfl
             refine last_ (i := 29) (N := none) #[true, true, true, true, true, true, true, true, true, true, true, true, true, true, true, true, true, true, true, true, true, true, true, true, true, true, true, true, true, true] rfl rfl (one_of HT_.out (by kernel_rfl)) (by decide) (fun K hK => ?_)
             refine skip_ (w1 := ?_) (by rfl) rfl ?_ ?_
             rotate_left
             ·go_simp
              rfl
             refine hK.out _ _ ?_
             clear hK K
             refine done_ (done_of HT_.out (by kernel_rfl)) ?_
             try go_wp2
             go_roundg k3
             case measure => have := HK1.out; have := HK2.out; have := HK3.out; omega
             case rel => exact ⟨(y261), (wrap64 (x10_3 + 1)), (by first | rfl | (simp; done) | (simp [*]; done)), H', ⟨by have := HK1.out; have := HK2.out; have := HK3.out; omega⟩, ⟨by (with_reducible repeat (first | apply Kd.S_alloc | apply Kd.S_drewN | apply Kd.S_drew)); exact HQ25.out⟩, ⟨by repeat (first | (with_reducible first | exact HB.out | apply below_alloc | apply pw_below_drewN | apply below_drew1 | refine below_set ?_ GB22.out) | exact HB.out)⟩⟩
            ·rw [if_neg c19] at H
             have c19b0 : decide ((rd (rd_L4 x7_3 x8_1) x10_3) < 1099511627776) = false := decide_eq_false c19
             clear c19
             have H' := Aside0.mk H
             clear H
             obtain ⟨Ao27, co27, eo27⟩ := Kd.S_slice HO_7.out
             subst eo27
             have p248 : 0 ≤ (x9_2 : Int) := of_decide_eq_true (by with_reducible assumption)
             have q248 : x9_2 < (x7_3.length : Int) := of_decide_eq_true (by with_reducible assumption)
             obtain ⟨ad248, A248_0, c248_0, e248, hx248_0, hl248_0, hi248_0⟩ := at_L4 (Kd.S_reads' HO_7.out).2.2 x9_2 p248 q248
             cases e248
             obtain ⟨ce248, hce248, hMe248, hcc248⟩ := Kd.S_get HO_7.out [] x9_2 p248 (by first | exact q248 | exact of_decide_eq_true (by with_reducible assumption) | (have e_ := (Kd.S_reads' HO_7.out).1; omega))
             obtain ⟨ve248_0, rfl, ge248_0⟩ := hMe248
             have hv248_0 := hcc248 0 _ rfl
             rw [Nat.add_zero, show ((Kd.slice 3 (Kd.int .i64))).sz = 1 from rfl, Nat.mul_one] at hv248_0
             replace hv248_0 := Option.some.inj (hv248_0.symm.trans hx248_0)
             rw [hv248_0] at ge248_0
             have HL248_0 := Aside0.mk (show Kd.R (Kd.int .i64) 3 _ _ _ _ (rd_L4 x7_3 x9_2) from ge248_0)
             clear hv248_0 ge248_0
             have HX248_0 := Aside0.mk hx248_0
             clear hcc248 hce248
             have HR248_0 := Aside0.mk hi248_0
             have HC248_0 := Aside0.mk hl248_0
             clear hi248_0 hl248_0
             replace p248 := eq_true p248
             replace q248 := eq_true q248
             have p249 : 0 ≤ (x8_1 : Int) := of_decide_eq_true (by with_reducible assumption)
             have q249 : x8_1 < ((rd_L4 x7_3 x9_2).length : Int) := of_decide_eq_true (by with_reducible assumption)
             obtain ⟨ad249, e249, hx249_0⟩ := Kd.at_int (by repeat (first | (with_reducible exact HR248_0.out) | (with_reducible refine Kd.C_alloc ?_ _) | (with_reducible refine Kd.C_drewN ?_ _) | (with_reducible refine Kd.C_drew ?_) | exact HR248_0.out)) x8_1 p249 q249
             cases e249
             replace p249 := eq_true p249
             replace q249 := eq_true q249
             have p250 : 0 ≤ (x8_1 : Int) := of_decide_eq_true (by with_reducible assumption)
             have q250 : x8_1 < (x7_3.length : Int) := of_decide_eq_true (by with_reducible assumption)
             obtain ⟨ad250, A250_0, c250_0, e250, hx250_0, hl250_0, hi250_0⟩ := at_L4 (Kd.S_reads' HO_7.out).2.2 x8_1 p250 q250
             obtain rfl : ad248 = ad250 := (by injection e250)
             obtain ⟨ce250, hce250, hMe250, hcc250⟩ := Kd.S_get HO_7.out [] x8_1 p250 (by first | exact q250 | exact of_decide_eq_true (by with_reducible assumption) | (have e_ := (Kd.S_reads' HO_7.out).1; omega))
             obtain ⟨ve250_0, rfl, ge250_0⟩ := hMe250
             have hv250_0 := hcc250 0 _ rfl
             rw [Nat.add_zero, show ((Kd.slice 3 (Kd.int .i64))).sz = 1 from rfl, Nat.mul_one] at hv250_0
             replace hv250_0 := Option.some.inj (hv250_0.symm.trans hx250_0)
             rw [hv250_0] at ge250_0
             have HL250_0 := Aside0.mk (show Kd.R (Kd.int .i64) 3 _ _ _ _ (rd_L4 x7_3 x8_1) from ge250_0)
             clear hv250_0 ge250_0
             have HX250_0 := Aside0.mk hx250_0
             clear hcc250 hce250
             have HR250_0 := Aside0.mk hi250_0
             have HC250_0 := Aside0.mk hl250_0
             clear hi250_0 hl250_0
             replace p250 := eq_true p250
             replace q250 := eq_true q250
             have p251 : 0 ≤ (x10_3 : Int) := of_decide_eq_true (by with_reducible assumption)
             have q251 : x10_3 < ((rd_L4 x7_3 x8_1).length : Int) := of_decide_eq_true (by with_reducible assumption)
             obtain ⟨ad251, e251, hx251_0⟩ := Kd.at_int (by repeat (first | (with_reducible exact HR250_0.out) | (with_reducible refine Kd.C_alloc ?_ _) | (with_reducible refine Kd.C_drewN ?_ _) | (with_reducible refine Kd.C_drew ?_) | exact HR250_0.out)) x10_3 p251 q251
             cases e251
             replace p251 := eq_true p251
             replace q251 := eq_true q251
             go_wp2
             go_roundg k3
             case measure => have := HK1.out; have := HK2.out; have := HK3.out; omega
             case rel => exact ⟨(x7_3), (wrap64 (x10_3 + 1)), (by first | rfl | (simp; done) | (simp [*]; done)), H', ⟨by have := HK1.out; have := HK2.out; have := HK3.out; omega⟩, ⟨by (with_reducible repeat (first | apply Kd.S_alloc | apply Kd.S_drewN | apply Kd.S_drew)); exact HO_7.out⟩, ⟨by repeat (first | (with_reducible first | exact HB.out | apply below_alloc | apply pw_below_drewN | apply below_drew1) | exact HB.out)⟩⟩
           ·rw [if_neg c15] at H
            have c15b0 : decide ((rd (rd_L4 x7_3 x9_2) x8_1) < 1099511627776) = false := decide_eq_false c15
            clear c15
            have H' := Aside0.mk H
            clear H
            obtain ⟨Ao28, co28, eo28⟩ := Kd.S_slice HO_7.out
            subst eo28
            have p248 : 0 ≤ (x9_2 : Int) := of_decide_eq_true (by with_reducible assumption)
            have q248 : x9_2 < (x7_3.length : Int) := of_decide_eq_true (by with_reducible assumption)
            obtain ⟨ad248, A248_0, c248_0, e248, hx248_0, hl248_0, hi248_0⟩ := at_L4 (Kd.S_reads' HO_7.out).2.2 x9_2 p248 q248
            cases e248
            obtain ⟨ce248, hce248, hMe248, hcc248⟩ := Kd.S_get HO_7.out [] x9_2 p248 (by first | exact q248 | exact of_decide_eq_true (by with_reducible assumption) | (have e_ := (Kd.S_reads' HO_7.out).1; omega))
            obtain ⟨ve248_0, rfl, ge248_0⟩ := hMe248
            have hv248_0 := hcc248 0 _ rfl
            rw [Nat.add_zero, show ((Kd.slice 3 (Kd.int .i64))).sz = 1 from rfl, Nat.mul_one] at hv248_0
            replace hv248_0 := Option.some.inj (hv248_0.symm.trans hx248_0)
            rw [hv248_0] at ge248_0
            have HL248_0 := Aside0.mk (show Kd.R (Kd.int .i64) 3 _ _ _ _ (rd_L4 x7_3 x9_2) from ge248_0)
            clear hv248_0 ge248_0
            have HX248_0 := Aside0.mk hx248_0
            clear hcc248 hce248
            have HR248_0 := Aside0.mk hi248_0
            have HC248_0 := Aside0.mk hl248_0
            clear hi248_0 hl248_0
            replace p248 := eq_true p248
            replace q248 := eq_true q248
            have p249 : 0 ≤ (x8_1 : Int) := of_decide_eq_true (by with_reducible assumption)
            have q249 : x8_1 < ((rd_L4 x7_3 x9_2).length : Int) := of_decide_eq_true (by with_reducible assumption)
            obtain ⟨ad249, e249, hx249_0⟩ := Kd.at_int (by repeat (first | (with_reducible exact HR248_0.out) | (with_reducible refine Kd.C_alloc ?_ _) | (with_reducible refine Kd.C_drewN ?_ _) | (with_reducible refine Kd.C_drew ?_) | exact HR248_0.out)) x8_1 p249 q249
            cases e249
            replace p249 := eq_true p249
            replace q249 := eq_true q249
            go_wp2
            go_roundg k3
            case measure => have := HK1.out; have := HK2.out; have := HK3.out; omega
            case rel => exact ⟨(x7_3), (wrap64 (x10_3 + 1)), (by first | rfl | (simp; done) | (simp [*]; done)), H', ⟨by have := HK1.out; have := HK2.out; have := HK3.out; omega⟩, ⟨by (with_reducible repeat (first | apply Kd.S_alloc | apply Kd.S_drewN | apply Kd.S_drew)); exact HO_7.out⟩, ⟨by repeat (first | (with_reducible first | exact HB.out | apply below_alloc | apply pw_below_drewN | apply below_drew1) | exact HB.out)⟩⟩
          ·rw [if_neg c10] at H
           have c10b0 : decide (x10_3 ≤ a0) = false := decide_eq_false c10
           clear c10
           have H' := Aside0.mk H
           clear H
           go_wp2
           go_roundg k3
           case measure => have := HK1.out; have := HK2.out; have := HK3.out; omega
           case rel => exact ⟨(x7_3), (wrap64 (x9_2 + 1)), (by first | rfl | (simp; done) | (simp [*]; done)), H', ⟨by have := HK1.out; have := HK2.out; have := HK3.out; omega⟩, ⟨by (with_reducible repeat (first | apply Kd.S_alloc | apply Kd.S_drewN | apply Kd.S_drew)); exact HO_7.out⟩, ⟨by repeat (first | (with_reducible first | exact HB.out | apply below_alloc | apply pw_below_drewN | apply below_drew1) | exact HB.out)⟩⟩
       ·rw [if_neg c9] at H
        have c9b0 : decide (x9_2 ≤ a0) = false := decide_eq_false c9
        clear c9
        have H' := Aside0.mk H
        clear H
        go_wp2
        go_roundg k2
        case measure => have := HK1.out; have := HK2.out; omega
        case rel => exact ⟨(x7_2), (wrap64 (x8_1 + 1)), (by first | rfl | (simp; done) | (simp [*]; done)), H', ⟨by have := HK1.out; have := HK2.out; omega⟩, ⟨by (with_reducible repeat (first | apply Kd.S_alloc | apply Kd.S_drewN | apply Kd.S_drew)); exact HO_7.out⟩, ⟨by repeat (first | (with_reducible first | exact HB.out | apply below_alloc | apply pw_below_drewN | apply below_drew1) | exact HB.out)⟩⟩
    ·rw [if_neg c8] at H
     have c8b0 : decide (x8_1 ≤ a0) = false := decide_eq_false c8
     clear c8
     have H' := Aside0.mk H
     clear H
     go_wp2
     go_loopg [11] k1 (fun kq v11 w' => ∃ (x11_2 : Int), v11 = .int .i64 x11_2 ∧ Aside0 (r14_Close.l3 kq a0 x7_1 x11_2 = some (r1, r2)) ∧ Aside0 (kq ≤ k1) ∧ Aside0 (Kd.S (Kd.slice 3 (Kd.int .i64)) 22 w' w.heap.size (fun _ => True) v246 x7_1) ∧ Aside0 (Below w.heap.size w w'))
     case atStart => exact ⟨(0), (by first | rfl | (simp; done) | (simp [*]; done)), H', ⟨Nat.le_refl _⟩, ⟨by (with_reducible repeat (first | apply Kd.S_alloc | apply Kd.S_drewN | apply Kd.S_drew)); exact HO_7.out⟩, ⟨by repeat (first | (with_reducible first | exact HB.out | apply below_alloc | apply pw_below_drewN | apply below_drew1) | exact HB.out)⟩⟩
     case round =>
      clear H'
      try clear c1
      try clear c2
      try clear p2
      try clear q2
      try clear hx2
      try clear hf2
      try clear p6
      try clear c8
      try clear c8b0
      try clear c9
      try clear c9b0
      try clear c10
      try clear c10b0
      try clear c11
      try clear c12
      try clear c13
      try clear c14
      try clear c15
      try clear c15b0
      try clear c16
      try clear c17
      try clear c18
      try clear c19
      try clear c19b0
      try clear c20
      try clear p22
      try clear q22
      try clear hx22
      try clear hf22
      try clear c24
      try clear p24
      try clear q24
      try clear hx24
      try clear c25
      try clear p25
      try clear q25
      try clear hx25
      try clear hx22_0
      try clear hx248_0
      try clear hx249_0
      try clear hx250_0
      try clear hx251_0
      try clear hx252_0
      try clear hx253_0
      try clear hx254_0
      try clear hx255_0
      try clear hx256_0
      try clear hx257_0
      try clear hx258_0
      try clear p22
      try clear p248
      try clear p249
      try clear p250
      try clear p251
      try clear p252
      try clear p253
      try clear p254
      try clear p255
      try clear p256
      try clear p257
      try clear p258
      try clear q22
      try clear q248
      try clear q249
      try clear q250
      try clear q251
      try clear q252
      try clear q253
      try clear q254
      try clear q255
      try clear q256
      try clear q257
      try clear q258
      obtain ⟨x11_2, rfl, HA, HK2, HO_7, HB⟩ := hrel
      cases gk with
      | zero => exact absurd HA.out (by simp [r14_Close.l3])
      | succ k2 =>
       have H := HA.out
       clear HA
       simp only [r14_Close.l3] at H
       by_cases c29 : x11_2 ≤ a0
       ·rw [if_pos c29] at H
        have c29b0 : decide (x11_2 ≤ a0) = true := decide_eq_true c29
        clear c29
        by_cases c30 : 0 ≤ x11_2
        case neg => rw [if_neg c30] at H; exact absurd H (by simp)
        rw [if_pos c30] at H
        have c30b0 : decide (0 ≤ x11_2) = true := decide_eq_true c30
        clear c30
        by_cases c31 : x11_2 < (x7_1.length : Int)
        case neg => rw [if_neg c31] at H; exact absurd H (by simp)
        rw [if_pos c31] at H
        have c31b0 : decide (x11_2 < (x7_1.length : Int)) = true := decide_eq_true c31
        clear c31
        by_cases c32 : x11_2 < ((rd_L4 x7_1 x11_2).length : Int)
        case neg => rw [if_neg c32] at H; exact absurd H (by simp)
        rw [if_pos c32] at H
        have c32b0 : decide (x11_2 < ((rd_L4 x7_1 x11_2).length : Int)) = true := decide_eq_true c32
        clear c32
        by_cases c33 : (rd (rd_L4 x7_1 x11_2) x11_2) < 0
        ·rw [if_pos c33] at H
         have c33b0 : decide ((rd (rd_L4 x7_1 x11_2) x11_2) < 0) = true := decide_eq_true c33
         clear c33
         simp only [Option.some.injEq, Prod.mk.injEq] at H
         obtain ⟨rfl, rfl⟩ := H
         obtain ⟨Ao34, co34, eo34⟩ := Kd.S_slice HO_7.out
         subst eo34
         have p262 : 0 ≤ (x11_2 : Int) := of_decide_eq_true (by with_reducible assumption)
         have q262 : x11_2 < (x7_1.length : Int) := of_decide_eq_true (by with_reducible assumption)
         obtain ⟨ad262, A262_0, c262_0, e262, hx262_0, hl262_0, hi262_0⟩ := at_L4 (Kd.S_reads' HO_7.out).2.2 x11_2 p262 q262
         cases e262
         obtain ⟨ce262, hce262, hMe262, hcc262⟩ := Kd.S_get HO_7.out [] x11_2 p262 (by first | exact q262 | exact of_decide_eq_true (by with_reducible assumption) | (have e_ := (Kd.S_reads' HO_7.out).1; omega))
         obtain ⟨ve262_0, rfl, ge262_0⟩ := hMe262
         have hv262_0 := hcc262 0 _ rfl
         rw [Nat.add_zero, show ((Kd.slice 3 (Kd.int .i64))).sz = 1 from rfl, Nat.mul_one] at hv262_0
         replace hv262_0 := Option.some.inj (hv262_0.symm.trans hx262_0)
         rw [hv262_0] at ge262_0
         have HL262_0 := Aside0.mk (show Kd.R (Kd.int .i64) 3 _ _ _ _ (rd_L4 x7_1 x11_2) from ge262_0)
         clear hv262_0 ge262_0
         have HX262_0 := Aside0.mk hx262_0
         clear hcc262 hce262
         have HR262_0 := Aside0.mk hi262_0
         have HC262_0 := Aside0.mk hl262_0
         clear hi262_0 hl262_0
         replace p262 := eq_true p262
         replace q262 := eq_true q262
         have p263 : 0 ≤ (x11_2 : Int) := of_decide_eq_true (by with_reducible assumption)
         have q263 : x11_2 < ((rd_L4 x7_1 x11_2).length : Int) := of_decide_eq_true (by with_reducible assumption)
         obtain ⟨ad263, e263, hx263_0⟩ := Kd.at_int (by repeat (first | (with_reducible exact HR262_0.out) | (with_reducible refine Kd.C_alloc ?_ _) | (with_reducible refine Kd.C_drewN ?_ _) | (with_reducible refine Kd.C_drew ?_) | exact HR262_0.out)) x11_2 p263 q263
         cases e263
         replace p263 := eq_true p263
         replace q263 := eq_true q263
         go_wp2
         go_ret2
         exact ⟨_, by first | rfl | (simp [errW_none, errW_some] <;> rfl) | (simp [*, errW_none, errW_some] <;> rfl), by first | exact Kd.S_nil _ _ _ _ _ | exact Kd.N_nil _ _ _ _ _ | exact Kd.V_nil _ _ _ _ _ | exact Kd.Q_nil _ _ _ _ _ | exact Kd.R_nil _ _ _ _ _, by repeat (first | (with_reducible first | exact HB.out | apply below_alloc | apply pw_below_drewN | apply below_drew1) | exact HB.out)⟩
        ·rw [if_neg c33] at H
         have c33b0 : decide ((rd (rd_L4 x7_1 x11_2) x11_2) < 0) = false := decide_eq_false c33
         clear c33
         have H' := Aside0.mk H
         clear H
         obtain ⟨Ao35, co35, eo35⟩ := Kd.S_slice HO_7.out
         subst eo35
         have p262 : 0 ≤ (x11_2 : Int) := of_decide_eq_true (by with_reducible assumption)
         have q262 : x11_2 < (x7_1.length : Int) := of_decide_eq_true (by with_reducible assumption)
         obtain ⟨ad262, A262_0, c262_0, e262, hx262_0, hl262_0, hi262_0⟩ := at_L4 (Kd.S_reads' HO_7.out).2.2 x11_2 p262 q262
         cases e262
         obtain ⟨ce262, hce262, hMe262, hcc262⟩ := Kd.S_get HO_7.out [] x11_2 p262 (by first | exact q262 | exact of_decide_eq_true (by with_reducible assumption) | (have e_ := (Kd.S_reads' HO_7.out).1; omega))
         obtain ⟨ve262_0, rfl, ge262_0⟩ := hMe262
         have hv262_0 := hcc262 0 _ rfl
         rw [Nat.add_zero, show ((Kd.slice 3 (Kd.int .i64))).sz = 1 from rfl, Nat.mul_one] at hv262_0
         replace hv262_0 := Option.some.inj (hv262_0.symm.trans hx262_0)
         rw [hv262_0] at ge262_0
         have HL262_0 := Aside0.mk (show Kd.R (Kd.int .i64) 3 _ _ _ _ (rd_L4 x7_1 x11_2) from ge262_0)
         clear hv262_0 ge262_0
         have HX262_0 := Aside0.mk hx262_0
         clear hcc262 hce262
         have HR262_0 := Aside0.mk hi262_0
         have HC262_0 := Aside0.mk hl262_0
         clear hi262_0 hl262_0
         replace p262 := eq_true p262
         replace q262 := eq_true q262
         have p263 : 0 ≤ (x11_2 : Int) := of_decide_eq_true (by with_reducible assumption)
         have q263 : x11_2 < ((rd_L4 x7_1 x11_2).length : Int) := of_decide_eq_true (by with_reducible assumption)
         obtain ⟨ad263, e263, hx263_0⟩ := Kd.at_int (by repeat (first | (with_reducible exact HR262_0.out) | (with_reducible refine Kd.C_alloc ?_ _) | (with_reducible refine Kd.C_drewN ?_ _) | (with_reducible refine Kd.C_drew ?_) | exact HR262_0.out)) x11_2 p263 q263
         cases e263
         replace p263 := eq_true p263
         replace q263 := eq_true q263
         go_wp2
         go_roundg k2
         case measure => have := HK1.out; have := HK2.out; omega
         case rel => exact ⟨(wrap64 (x11_2 + 1)), (by first | rfl | (simp; done) | (simp [*]; done)), H', ⟨by have := HK1.out; have := HK2.out; omega⟩, ⟨by (with_reducible repeat (first | apply Kd.S_alloc | apply Kd.S_drewN | apply Kd.S_drew)); exact HO_7.out⟩, ⟨by repeat (first | (with_reducible first | exact HB.out | apply below_alloc | apply pw_below_drewN | apply below_drew1) | exact HB.out)⟩⟩
       ·rw [if_neg c29] at H
        have c29b0 : decide (x11_2 ≤ a0) = false := decide_eq_false c29
        clear c29
        simp only [Option.some.injEq, Prod.mk.injEq] at H
        obtain ⟨rfl, rfl⟩ := H
        go_wp2
        go_ret2
        exact ⟨_, by first | rfl | (simp [errW_none, errW_some] <;> rfl) | (simp [*, errW_none, errW_some] <;> rfl), by (with_reducible repeat (first | apply Kd.S_alloc | apply Kd.S_drewN | apply Kd.S_drew)); exact HO_7.out, by repeat (first | (with_reducible first | exact HB.out | apply below_alloc | apply pw_below_drewN | apply below_drew1) | exact HB.out)⟩
 ·rw [if_neg c4] at H
  have c4b0 : (t244 == 0) = false := beq_eq_false_iff_ne.mpr c4
  have c4b1 : (t244 != 0) = true := bne_iff_ne.mpr c4
  simp only [Option.some.injEq, Prod.mk.injEq] at H
  obtain ⟨rfl, rfl⟩ := H
  go_enter Try.func14, Try.ntmps14
  go_wp2_with (first | ((with_reducible refine gate_callee (f := 30) rfl ?_); refine goesL_ (some 14) rfl rfl Try.func30 (by kernel_rfl) rfl #[.int .i64 a0, .slice A1 l1.length c1] rfl (by (try simp only [List.map_toArray, List.map_cons, List.map_nil]); first | done | rfl | (simp only [List.length_drop, List.length_take]; rfl)) ?_; (with_reducible refine (r14_Valid.calls k a0 _ _ l1 t244 _ ?side1 ?side2 A3.out).mono ?_); (case side1 => repeat (first | exact HR1.out | (with_reducible refine Kd.C_alloc ?_ _) | (with_reducible refine Kd.C_drewN ?_ _) | (with_reducible refine Kd.C_drew ?_))); (case side2 => exact HC1.out); rintro e w36 ⟨rfl, hb⟩; refine ⟨_, rfl, ?_⟩; have n0_ := Aside0.mk (below_step (by repeat (first | (with_reducible first | exact HB.out | apply below_alloc | apply pw_below_drewN | apply below_drew1) | exact HB.out)) hb); clear HB; have HB := n0_; clear n0_; (try clear hb); (try clear hb2); (try clear hk); (try clear hi)))
  go_ret2
  exact ⟨_, by first | rfl | (simp [errW_none, errW_some] <;> rfl) | (simp [*, errW_none, errW_some] <;> rfl), by first | exact Kd.S_nil _ _ _ _ _ | exact Kd.N_nil _ _ _ _ _ | exact Kd.V_nil _ _ _ _ _ | exact Kd.Q_nil _ _ _ _ _ | exact Kd.R_nil _ _ _ _ _, by repeat (first | (with_reducible first | exact HB.out | apply below_alloc | apply pw_below_drewN | apply below_drew1) | exact HB.out)⟩
end Go.Proofs.Ytcnkjcbjlopkmaa.Q
