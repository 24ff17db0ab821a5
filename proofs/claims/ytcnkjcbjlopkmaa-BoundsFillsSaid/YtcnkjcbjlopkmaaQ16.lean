-- Printed by wip/tools/myprint.py
import Derived.Test.YtcnkjcbjlopkmaaQ0
import Derived.Test.YtcnkjcbjlopkmaaQ7
import Derived.Test.YtcnkjcbjlopkmaaQ15
namespace Go.Proofs.Ytcnkjcbjlopkmaa.Q
open Go.RowKit Go.Proofs.YtcnkjcbjlopkmaaW.PrintWords Go.Proofs.YtcnkjcbjlopkmaaW.PrintLast Go.Proofs.YtcnkjcbjlopkmaaW.PrintMore
attribute [local go_sem] max2_int min2_int max_two min_two max_three min_three max_four min_four
set_option linter.unusedVariables false
set_option linter.unusedSimpArgs false
-- NOT PRINTED: function 4 (l14_BoundsRanges)
mutual
def r14_Fill.l0 : Nat → Int → List Int → List (List Int) → List Int → Int → Option (List Int × Int)
 | 0, _, _, _, _, _ => none
 | k + 1, x0, x2, x8, x10, x11 => if x11 < x0 then ((r14_Range.f k x8 x10).bind fun bt542 => (if bt542.2.2 = 0 then (if bt542.1 = (-1099511627776) then (r14_Fill.j1 k x0 x2 x8 x10 x11 bt542.1 bt542.2.1 true) else (r14_Fill.j1 k x0 x2 x8 x10 x11 bt542.1 bt542.2.1 (bt542.2.1 == 1099511627776))) else (r14_Fill.j1 k x0 x2 x8 x10 x11 bt542.1 bt542.2.1 true))) else (some (x10, 0))
def r14_Fill.j1 : Nat → Int → List Int → List (List Int) → List Int → Int → Int → Int → Bool → Option (List Int × Int)
 | 0, _, _, _, _, _, _, _, _ => none
 | k + 1, x0, x2, x8, x10, x11, x12, x13, x47 => if x47 = true then (some (([] : List Int), 5)) else (if x11 < (x2.length : Int) then (if 0 ≤ x11 then (if (wrap64 ((wrap64 (x13 - x12)) + 1)) = 0 then (none) else (if x10.length < 17592186044416 then (r14_Fill.l0 k x0 x2 x8 (x10 ++ [wrap64 (x12 + (Int.tmod (wrap64 ((Int.tmod (rd x2 x11) (wrap64 ((wrap64 (x13 - x12)) + 1))) + (wrap64 ((wrap64 (x13 - x12)) + 1)))) (wrap64 ((wrap64 (x13 - x12)) + 1))))]) (wrap64 (x11 + 1))) else (none))) else (none)) else (if (wrap64 ((wrap64 (x13 - x12)) + 1)) = 0 then (none) else (if x10.length < 17592186044416 then (r14_Fill.l0 k x0 x2 x8 (x10 ++ [wrap64 (x12 + (Int.tmod (wrap64 (((0 : Int) % (wrap64 ((wrap64 (x13 - x12)) + 1))) + (wrap64 ((wrap64 (x13 - x12)) + 1)))) (wrap64 ((wrap64 (x13 - x12)) + 1))))]) (wrap64 (x11 + 1))) else (none))))
end
def r14_Fill.f (k : Nat) (a0 : Int) (l1 : List (S54)) (l2 : List Int) : Option (List Int × Int) := (r14_Close.f k a0 l1).bind fun bt538 => (if bt538.2 = 0 then (r14_Fill.l0 k a0 l2 bt538.1 ([] : List Int) 0) else (some (([] : List Int), bt538.2)))
theorem r14_Fill.mono_l : ∀ k, (∀ y0 y1 y2 y3 y4, LeO (r14_Fill.l0 k y0 y1 y2 y3 y4) (r14_Fill.l0 (k + 1) y0 y1 y2 y3 y4)) ∧ (∀ y0 y1 y2 y3 y4 y5 y6 y7, LeO (r14_Fill.j1 k y0 y1 y2 y3 y4 y5 y6 y7) (r14_Fill.j1 (k + 1) y0 y1 y2 y3 y4 y5 y6 y7))
 | 0 => ⟨fun _ _ _ _ _ r h => by simp [r14_Fill.l0] at h, fun _ _ _ _ _ _ _ _ r h => by simp [r14_Fill.j1] at h⟩
 | k + 1 => by
  obtain ⟨ih0, ih1⟩ := r14_Fill.mono_l k
  refine ⟨?_, ?_⟩
  ·intro y0 y1 y2 y3 y4
   unfold r14_Fill.l0
   repeat' first
   | (with_reducible exact ih0 _ _ _ _ _)
   | (with_reducible exact ih1 _ _ _ _ _ _ _ _)
   | (with_reducible exact r14_Close.mono _ _ _)
   | (with_reducible exact r14_Range.mono _ _ _)
   | (with_reducible exact LeO.refl _)
   | (with_reducible exact LeO.none _)
   | (with_reducible refine LeO.ite ?_ ?_)
   | (with_reducible refine LeO.bind ?_ (fun _ => ?_))
   | exact LeO.none _
   | refine LeO.ite ?_ ?_
   | refine LeO.bind ?_ (fun _ => ?_)
  ·intro y0 y1 y2 y3 y4 y5 y6 y7
   unfold r14_Fill.j1
   repeat' first
   | (with_reducible exact ih0 _ _ _ _ _)
   | (with_reducible exact ih1 _ _ _ _ _ _ _ _)
   | (with_reducible exact r14_Close.mono _ _ _)
   | (with_reducible exact r14_Range.mono _ _ _)
   | (with_reducible exact LeO.refl _)
   | (with_reducible exact LeO.none _)
   | (with_reducible refine LeO.ite ?_ ?_)
   | (with_reducible refine LeO.bind ?_ (fun _ => ?_))
   | exact LeO.none _
   | refine LeO.ite ?_ ?_
   | refine LeO.bind ?_ (fun _ => ?_)
theorem r14_Fill.mono : ∀ a0 a1 a2 k, LeO (r14_Fill.f k a0 a1 a2) (r14_Fill.f (k + 1) a0 a1 a2) := by
 intro a0 a1 a2 k
 obtain ⟨ih0, ih1⟩ := r14_Fill.mono_l k
 unfold r14_Fill.f
 repeat' first
   | (with_reducible exact ih0 _ _ _ _ _)
   | (with_reducible exact ih1 _ _ _ _ _ _ _ _)
   | (with_reducible exact r14_Close.mono _ _ _)
   | (with_reducible exact r14_Range.mono _ _ _)
   | (with_reducible exact LeO.refl _)
   | (with_reducible exact LeO.none _)
   | (with_reducible refine LeO.ite ?_ ?_)
   | (with_reducible refine LeO.bind ?_ (fun _ => ?_))
   | exact LeO.none _
   | refine LeO.ite ?_ ?_
   | refine LeO.bind ?_ (fun _ => ?_)
set_option maxHeartbeats 8000000 in
set_option maxRecDepth 100000 in
theorem r14_Fill.calls (k : Nat) (a0 : Int) (A1 : Option Addr) (c1 : Nat) (l1 : List (S54)) (A2 : Option Addr) (c2 : Nat) (l2 : List Int) (r1 : List Int) (r2 : Int) (w : World) (hr1 : Kd.C k54 w A1 l1.length l1) (hc1 : l1.length ≤ c1) (hr2 : Kd.C (Kd.int .i64) w A2 l2.length l2) (hc2 : l2.length ≤ c2) (h : r14_Fill.f k a0 l1 l2 = some (r1, r2)) :
  Calls Try.prog 24 #[.int .i64 a0, .slice A1 l1.length c1, .slice A2 l2.length c2] w fun e w' => ∃ v0_ : Value, e = .returned (.tuple #[v0_, .int .i64 r2]) ∧ Kd.R (Kd.int .i64) 3 w' w.heap.size (fun _ => True) v0_ r1 ∧ Below w.heap.size w w' := by
 have HR1 := Aside0.mk hr1
 have HC1 := Aside0.mk hc1
 clear hr1 hc1
 have HR2 := Aside0.mk hr2
 have HC2 := Aside0.mk hc2
 clear hr2 hc2
 have HB := Aside0.mk (Below.refl w.heap.size w)
 have H : ((r14_Close.f k a0 l1).bind fun bt538 => (if bt538.2 = 0 then (r14_Fill.l0 k a0 l2 bt538.1 ([] : List Int) 0) else (some (([] : List Int), bt538.2)))) = some (r1, r2) := h
 clear h
 replace H := Option.bind_eq_some_iff.mp H
 obtain ⟨⟨t538, t539⟩, A40, H⟩ := H
 replace H : (if t539 = 0 then (r14_Fill.l0 k a0 l2 t538 ([] : List Int) 0) else (some (([] : List Int), t539))) = some (r1, r2) := H
 have A4 := Aside0.mk A40
 clear A40
 by_cases c5 : t539 = 0
 ·rw [if_pos c5] at H
  have c5b0 : (t539 == 0) = true := beq_iff_eq.mpr c5
  have c5b1 : (t539 != 0) = false := bne_eq_false_iff_eq.mpr c5
  clear c5
  have H' := Aside0.mk H
  clear H
  go_enter Try.func24, Try.ntmps24
  go_wp2_with (first | ((with_reducible refine gate_callee (f := 14) rfl ?_); refine goesL_ (some 20) rfl rfl Try.func14 (by kernel_rfl) rfl #[.int .i64 a0, .slice A1 l1.length c1] rfl (by (try simp only [List.map_toArray, List.map_cons, List.map_nil]); first | done | rfl | (simp only [List.length_drop, List.length_take]; rfl)) ?_; (with_reducible refine (r14_Close.calls k a0 _ _ l1 t538 t539 _ ?side1 ?side2 A4.out).mono ?_); (case side1 => exact gC (HR1.out)); (case side2 => exact HC1.out); rintro e w6 ⟨v540, rfl, ho0, hb⟩; refine ⟨_, rfl, ?_⟩; have n0_ := Aside0.mk (Kd.S_lower ho0 (below_size (bl HB.out))); have n1_ := Aside0.mk (below_step (bl HB.out) hb); clear HB; have HO541 := n0_; have HB := n1_; clear n0_ n1_; (try clear hb); (try clear hb2); (try clear hk); (try clear hi); (try clear ho0)))
  go_loopg [10, 11] k (fun kq v10 v11 w' => ∃ (x10_1 : List Int) (x11_1 : Int), v11 = .int .i64 x11_1 ∧ Aside0 (r14_Fill.l0 kq a0 l2 t538 x10_1 x11_1 = some (r1, r2)) ∧ Aside0 (kq ≤ k) ∧ Aside0 (Kd.S (Kd.slice 3 (Kd.int .i64)) 22 w' w.heap.size (fun k_ => some k_ ≠ (v10 : Value).ownBlock) v540 t538) ∧ Aside0 (Kd.R (Kd.int .i64) 3 w' w.heap.size (fun _ => True) v10 x10_1) ∧ Aside0 (Below w.heap.size w w'))
  case atStart => exact ⟨(([] : List Int)), (0), (by first | rfl | (simp; done) | (simp [*]; done)), H', ⟨Nat.le_refl _⟩, ⟨gS (Kd.S_mono HO541.out (fun _ hk => (by simp [Value.ownBlock])))⟩, ⟨by first | exact Kd.R_nil _ _ _ _ _ | exact Kd.N_nil _ _ _ _ _ | exact Kd.V_nil _ _ _ _ _ | exact Kd.Q_nil _ _ _ _ _ | exact Kd.S_nil _ _ _ _ _⟩, ⟨bl HB.out⟩⟩
  case round =>
   clear H'
   try clear c1
   try clear c2
   try clear p2
   try clear c5
   try clear c5b0
   try clear c5b1
   obtain ⟨x10_1, x11_1, rfl, HA, HK1, HO_8, HO_10, HB⟩ := hrel
   cases gk with
   | zero => exact absurd HA.out (by simp [r14_Fill.l0])
   | succ k1 =>
    have H := HA.out
    clear HA
    simp only [r14_Fill.l0] at H
    by_cases c7 : x11_1 < a0
    ·rw [if_pos c7] at H
     have c7b0 : decide (x11_1 < a0) = true := decide_eq_true c7
     clear c7
     replace H := Option.bind_eq_some_iff.mp H
     obtain ⟨⟨t542, t543, t544⟩, A80, H⟩ := H
     replace H : (if t544 = 0 then (if t542 = (-1099511627776) then (r14_Fill.j1 k1 a0 l2 t538 x10_1 x11_1 t542 t543 true) else (r14_Fill.j1 k1 a0 l2 t538 x10_1 x11_1 t542 t543 (t543 == 1099511627776))) else (r14_Fill.j1 k1 a0 l2 t538 x10_1 x11_1 t542 t543 true)) = some (r1, r2) := H
     have A8 := Aside0.mk A80
     clear A80
     have HC9 := Aside0.mk H
     clear H
     obtain ⟨Ao10, co10, eo10⟩ := Kd.S_slice HO_8.out
     subst eo10
     obtain ⟨Ao11, co11, eo11⟩ := Kd.R_slice HO_10.out
     subst eo11
     go_upto_region 9 with (first | ((with_reducible refine gate_callee (f := 22) rfl ?_); refine goesL_ (some 34) rfl rfl Try.func22 (by kernel_rfl) rfl #[.slice Ao10 t538.length co10, .slice Ao11 x10_1.length co11] rfl (by (try simp only [List.map_toArray, List.map_cons, List.map_nil]); first | done | rfl | (simp only [List.length_drop, List.length_take]; rfl)) ?_; (with_reducible refine (r14_Range.calls k1 _ _ t538 _ _ x10_1 t542 t543 t544 _ ?side1 ?side2 ?side3 ?side4 A8.out).mono ?_); (case side1 => exact gC ((Kd.S_reads' HO_8.out).2.2)); (case side2 => exact (Kd.S_reads' HO_8.out).2.1); (case side3 => exact gC ((Kd.R_reads' HO_10.out).2.2)); (case side4 => exact (Kd.R_reads' HO_10.out).2.1); rintro e w' ⟨rfl, ⟨nd, rfl⟩⟩; refine ⟨_, rfl, ?_⟩))
     (try simp only [Act.put, List.setIfInBounds_toArray, List.set_cons_zero, List.set_cons_succ])
     go_cut [47] (fun v47 wc => ∃ (kq : Nat) (x47_8 : Bool), v47 = .bool x47_8 ∧ Aside0 (r14_Fill.j1 kq a0 l2 t538 x10_1 x11_1 t542 t543 x47_8 = some (r1, r2)) ∧ Aside0 (kq ≤ k1) ∧ Aside0 (Kd.S (Kd.slice 3 (Kd.int .i64)) 22 wc w.heap.size (fun k_ => some k_ ≠ ((.slice Ao11 x10_1.length co11) : Value).ownBlock) (.slice Ao10 t538.length co10) t538) ∧ Aside0 (Kd.R (Kd.int .i64) 3 wc w.heap.size (fun _ => True) (.slice Ao11 x10_1.length co11) x10_1) ∧ Aside0 (Below w.heap.size w wc))
     case first =>
      have H := HC9.out
      clear HC9
      by_cases c12 : t544 = 0
      ·rw [if_pos c12] at H
       have c12b0 : (t544 == 0) = true := beq_iff_eq.mpr c12
       have c12b1 : (t544 != 0) = false := bne_eq_false_iff_eq.mpr c12
       clear c12
       (first | rw [c12b0] | (simp only [i64_w, i32_w]; rw [c12b0]) | skip)
       by_cases c13 : t542 = (-1099511627776)
       ·rw [if_pos c13] at H
        have c13b0 : (t542 == (-1099511627776)) = true := beq_iff_eq.mpr c13
        have c13b1 : (t542 != (-1099511627776)) = false := bne_eq_false_iff_eq.mpr c13
        clear c13
        have H' := Aside0.mk H
        clear H
        go_wp2
        go_meet
        case rel => exact ⟨_, (true), (by first | rfl | (simp; done) | (simp [*]; done)), H', ⟨by have := HK1.out; first | omega | exact Nat.le_refl _⟩, ⟨gS (HO_8.out)⟩, ⟨gR (HO_10.out)⟩, ⟨bl HB.out⟩⟩
       ·rw [if_neg c13] at H
        have c13b0 : (t542 == (-1099511627776)) = false := beq_eq_false_iff_ne.mpr c13
        have c13b1 : (t542 != (-1099511627776)) = true := bne_iff_ne.mpr c13
        have H' := Aside0.mk H
        clear H
        go_wp2
        go_meet
        case rel => exact ⟨_, ((t543 == 1099511627776)), (by first | rfl | (simp; done) | (simp [*]; done)), H', ⟨by have := HK1.out; first | omega | exact Nat.le_refl _⟩, ⟨gS (HO_8.out)⟩, ⟨gR (HO_10.out)⟩, ⟨bl HB.out⟩⟩
      ·rw [if_neg c12] at H
       have c12b0 : (t544 == 0) = false := beq_eq_false_iff_ne.mpr c12
       have c12b1 : (t544 != 0) = true := bne_iff_ne.mpr c12
       (first | rw [c12b0] | (simp only [i64_w, i32_w]; rw [c12b0]) | skip)
       have H' := Aside0.mk H
       clear H
       go_wp2
       go_meet
       case rel => exact ⟨_, (true), (by first | rfl | (simp; done) | (simp [*]; done)), H', ⟨by have := HK1.out; first | omega | exact Nat.le_refl _⟩, ⟨gS (HO_8.out)⟩, ⟨gR (HO_10.out)⟩, ⟨bl HB.out⟩⟩
     case rest =>
      clear HC9
      try clear c1
      try clear c2
      try clear p2
      try clear c5
      try clear c5b0
      try clear c5b1
      try clear c7
      try clear c7b0
      try clear c12
      try clear c12b0
      try clear c12b1
      try clear c13
      try clear c13b0
      try clear c13b1
      try clear p2
      obtain ⟨kq, x47_8, rfl, HA, HJ8, HO_8, HO_10, HB⟩ := hcut
      cases kq with
      | zero => exact absurd HA.out (by simp [r14_Fill.j1])
      | succ kj8 =>
       have H := HA.out
       clear HA
       simp only [r14_Fill.j1] at H
       by_cases c14 : x47_8 = true
       ·subst c14
        have H1 : (some (([] : List Int), 5)) = some (r1, r2) := by rw [if_pos rfl] at H; exact H
        clear H
        have H := H1
        clear H1
        simp only [Option.some.injEq, Prod.mk.injEq] at H
        obtain ⟨rfl, rfl⟩ := H
        go_wp2
        go_ret2
        exact ⟨_, by first | rfl | (simp [errW_none, errW_some] <;> rfl) | (simp [*, errW_none, errW_some] <;> rfl), by first | exact Kd.R_nil _ _ _ _ _ | exact Kd.N_nil _ _ _ _ _ | exact Kd.V_nil _ _ _ _ _ | exact Kd.Q_nil _ _ _ _ _ | exact Kd.S_nil _ _ _ _ _, bl HB.out⟩
       ·replace c14 := Bool.eq_false_iff.mpr c14
        subst c14
        have H1 : (if x11_1 < (l2.length : Int) then (if 0 ≤ x11_1 then (if (wrap64 ((wrap64 (t543 - t542)) + 1)) = 0 then (none) else (if x10_1.length < 17592186044416 then (r14_Fill.l0 kj8 a0 l2 t538 (x10_1 ++ [wrap64 (t542 + (Int.tmod (wrap64 ((Int.tmod (rd l2 x11_1) (wrap64 ((wrap64 (t543 - t542)) + 1))) + (wrap64 ((wrap64 (t543 - t542)) + 1)))) (wrap64 ((wrap64 (t543 - t542)) + 1))))]) (wrap64 (x11_1 + 1))) else (none))) else (none)) else (if (wrap64 ((wrap64 (t543 - t542)) + 1)) = 0 then (none) else (if x10_1.length < 17592186044416 then (r14_Fill.l0 kj8 a0 l2 t538 (x10_1 ++ [wrap64 (t542 + (Int.tmod (wrap64 (((0 : Int) % (wrap64 ((wrap64 (t543 - t542)) + 1))) + (wrap64 ((wrap64 (t543 - t542)) + 1)))) (wrap64 ((wrap64 (t543 - t542)) + 1))))]) (wrap64 (x11_1 + 1))) else (none)))) = some (r1, r2) := by rw [if_neg (show ¬ (false = true) by decide)] at H; exact H
        clear H
        have H := H1
        clear H1
        by_cases c15 : x11_1 < (l2.length : Int)
        ·rw [if_pos c15] at H
         have c15b0 : decide (x11_1 < (l2.length : Int)) = true := decide_eq_true c15
         clear c15
         by_cases c16 : 0 ≤ x11_1
         case neg => rw [if_neg c16] at H; exact absurd H (by simp)
         rw [if_pos c16] at H
         have c16b0 : decide (0 ≤ x11_1) = true := decide_eq_true c16
         clear c16
         by_cases c17 : (wrap64 ((wrap64 (t543 - t542)) + 1)) = 0
         ·rw [if_pos c17] at H
          exact absurd H (by simp)
         ·rw [if_neg c17] at H
          have c17b0 : ((wrap64 ((wrap64 (t543 - t542)) + 1)) == 0) = false := beq_eq_false_iff_ne.mpr c17
          have c17b1 : ((wrap64 ((wrap64 (t543 - t542)) + 1)) != 0) = true := bne_iff_ne.mpr c17
          by_cases c18 : x10_1.length < 17592186044416
          case neg => rw [if_neg c18] at H; exact absurd H (by simp)
          rw [if_pos c18] at H
          have LMc18 := Aside0.mk c18
          clear c18
          obtain ⟨y546, hy546⟩ : ∃ y_ : List Int, y_ = (x10_1 ++ [wrap64 (t542 + (Int.tmod (wrap64 ((Int.tmod (rd l2 x11_1) (wrap64 ((wrap64 (t543 - t542)) + 1))) + (wrap64 ((wrap64 (t543 - t542)) + 1)))) (wrap64 ((wrap64 (t543 - t542)) + 1))))]) := ⟨_, rfl⟩
          replace H : (r14_Fill.l0 kj8 a0 l2 t538 y546 (wrap64 (x11_1 + 1))) = some (r1, r2) := by first | (rw [hy546]; with_reducible exact H) | (have H2_ := (Option.bind_some _ _).symm.trans H; rw [hy546]; with_reducible exact H2_) | (have H2_ := (Option.bind_some _ _).symm.trans H; with_reducible exact H2_) | with_reducible exact H | (rw [hy546]; exact H) | exact H
          have Ny546 := Aside0.mk hy546
          clear hy546
          have H' := Aside0.mk H
          clear H
          have p545 : 0 ≤ (x11_1 : Int) := of_decide_eq_true (by assumption)
          have q545 : x11_1 < (l2.length : Int) := of_decide_eq_true (by assumption)
          obtain ⟨ad545, e545, hx545_0⟩ := Kd.at_int HR2.out x11_1 p545 q545
          cases e545
          replace hx545_0 := (HB.out.cell (World.block_lt_of_cell? w _ hx545_0)).trans hx545_0
          replace p545 := eq_true p545
          replace q545 := eq_true q545
          go_wp2_with (first | ((with_reducible refine gate_builtin (b := .append) (xs := #[.tmp 60, .tmp 70]) rfl ?_); at_builtin; refine Kd.R_append (Kd.int .i64) (w0 := w) w.heap.size rfl (.tmp 60) (.tmp 70) 22 3 (.int .i64 0) 8 rfl Try.underlying22 info3 rfl (by decide) (by omega) (.slice Ao11 x10_1.length co11) x10_1 (wrap64 (t542 + (Int.tmod (wrap64 ((Int.tmod (rd l2 x11_1) (wrap64 ((wrap64 (t543 - t542)) + 1))) + (wrap64 ((wrap64 (t543 - t542)) + 1)))) (wrap64 ((wrap64 (t543 - t542)) + 1))))) [.int .i64 (wrap64 (t542 + (Int.tmod (wrap64 ((Int.tmod (rd l2 x11_1) (wrap64 ((wrap64 (t543 - t542)) + 1))) + (wrap64 ((wrap64 (t543 - t542)) + 1)))) (wrap64 ((wrap64 (t543 - t542)) + 1)))))] (fun _ => True) (fun _ => False) rfl rfl ?aP (fun _ hk => hk.elim) ?aF ?aO ?aB ?aS ?aL ?_; (case aP => exact rfl); (case aB => exact (bl HB.out)); (case aF => exact (fun _ _ => trivial)); (case aO => exact (gR (HO_10.out))); (case aS => exact (below_size (bl HB.out))); (case aL => have := LMc18.out; omega); intro v547 w19 ho hb hg hat; rw [← Ny546.out] at ho; have n0_ := Aside0.mk (Kd.S_after (ok := (fun _ => True)) (gS (Kd.S_mono HO_8.out (fun _ hk => ⟨trivial, hk⟩))) hg hat); have n1_ := Aside0.mk (hb); have n2_ := Aside0.mk (ho); clear HO_8; clear HB; clear HO_10; have HO_8 := n0_; have HB := n1_; have HO548 := n2_; clear n0_ n1_ n2_; clear ho hb hg hat))
          go_roundg kj8
          case measure => have := HK1.out; have := HJ8.out; omega
          case rel => exact ⟨(y546), (wrap64 (x11_1 + 1)), (by first | rfl | (simp; done) | (simp [*]; done)), H', ⟨by have := HK1.out; have := HJ8.out; omega⟩, ⟨gS (Kd.S_mono HO_8.out (fun _ hk => hk.2))⟩, ⟨gR (HO548.out)⟩, ⟨bl HB.out⟩⟩
        ·rw [if_neg c15] at H
         have c15b0 : decide (x11_1 < (l2.length : Int)) = false := decide_eq_false c15
         clear c15
         by_cases c20 : (wrap64 ((wrap64 (t543 - t542)) + 1)) = 0
         ·rw [if_pos c20] at H
          exact absurd H (by simp)
         ·rw [if_neg c20] at H
          have c20b0 : ((wrap64 ((wrap64 (t543 - t542)) + 1)) == 0) = false := beq_eq_false_iff_ne.mpr c20
          have c20b1 : ((wrap64 ((wrap64 (t543 - t542)) + 1)) != 0) = true := bne_iff_ne.mpr c20
          by_cases c21 : x10_1.length < 17592186044416
          case neg => rw [if_neg c21] at H; exact absurd H (by simp)
          rw [if_pos c21] at H
          have LMc21 := Aside0.mk c21
          clear c21
          obtain ⟨y549, hy549⟩ : ∃ y_ : List Int, y_ = (x10_1 ++ [wrap64 (t542 + (Int.tmod (wrap64 (((0 : Int) % (wrap64 ((wrap64 (t543 - t542)) + 1))) + (wrap64 ((wrap64 (t543 - t542)) + 1)))) (wrap64 ((wrap64 (t543 - t542)) + 1))))]) := ⟨_, rfl⟩
          replace H : (r14_Fill.l0 kj8 a0 l2 t538 y549 (wrap64 (x11_1 + 1))) = some (r1, r2) := by first | (rw [hy549]; with_reducible exact H) | (have H2_ := (Option.bind_some _ _).symm.trans H; rw [hy549]; with_reducible exact H2_) | (have H2_ := (Option.bind_some _ _).symm.trans H; with_reducible exact H2_) | with_reducible exact H | (rw [hy549]; exact H) | exact H
          rw [show ((0 : Int) % (wrap64 ((wrap64 (t543 - t542)) + 1))) + (wrap64 ((wrap64 (t543 - t542)) + 1)) = (wrap64 ((wrap64 (t543 - t542)) + 1)) from by simp] at hy549
          have Ny549 := Aside0.mk hy549
          clear hy549
          have H' := Aside0.mk H
          clear H
          go_wp2_with (first | ((with_reducible refine gate_builtin (b := .append) (xs := #[.tmp 60, .tmp 70]) rfl ?_); at_builtin; refine Kd.R_append (Kd.int .i64) (w0 := w) w.heap.size rfl (.tmp 60) (.tmp 70) 22 3 (.int .i64 0) 8 rfl Try.underlying22 info3 rfl (by decide) (by omega) (.slice Ao11 x10_1.length co11) x10_1 (wrap64 (t542 + (Int.tmod (wrap64 ((wrap64 ((wrap64 (t543 - t542)) + 1)))) (wrap64 ((wrap64 (t543 - t542)) + 1))))) [.int .i64 (wrap64 (t542 + (Int.tmod (wrap64 ((wrap64 ((wrap64 (t543 - t542)) + 1)))) (wrap64 ((wrap64 (t543 - t542)) + 1)))))] (fun _ => True) (fun _ => False) rfl rfl ?aP (fun _ hk => hk.elim) ?aF ?aO ?aB ?aS ?aL ?_; (case aP => exact rfl); (case aB => exact (bl HB.out)); (case aF => exact (fun _ _ => trivial)); (case aO => exact (gR (HO_10.out))); (case aS => exact (below_size (bl HB.out))); (case aL => have := LMc21.out; omega); intro v550 w22 ho hb hg hat; rw [← Ny549.out] at ho; have n0_ := Aside0.mk (Kd.S_after (ok := (fun _ => True)) (gS (Kd.S_mono HO_8.out (fun _ hk => ⟨trivial, hk⟩))) hg hat); have n1_ := Aside0.mk (hb); have n2_ := Aside0.mk (ho); clear HO_8; clear HB; clear HO_10; have HO_8 := n0_; have HB := n1_; have HO551 := n2_; clear n0_ n1_ n2_; clear ho hb hg hat))
          go_roundg kj8
          case measure => have := HK1.out; have := HJ8.out; omega
          case rel => exact ⟨(y549), (wrap64 (x11_1 + 1)), (by first | rfl | (simp; done) | (simp [*]; done)), H', ⟨by have := HK1.out; have := HJ8.out; omega⟩, ⟨gS (Kd.S_mono HO_8.out (fun _ hk => hk.2))⟩, ⟨gR (HO551.out)⟩, ⟨bl HB.out⟩⟩
    ·rw [if_neg c7] at H
     have c7b0 : decide (x11_1 < a0) = false := decide_eq_false c7
     clear c7
     simp only [Option.some.injEq, Prod.mk.injEq] at H
     obtain ⟨rfl, rfl⟩ := H
     go_wp2
     go_ret2
     exact ⟨_, by first | rfl | (simp [errW_none, errW_some] <;> rfl) | (simp [*, errW_none, errW_some] <;> rfl), gR (HO_10.out), bl HB.out⟩
 ·rw [if_neg c5] at H
  have c5b0 : (t539 == 0) = false := beq_eq_false_iff_ne.mpr c5
  have c5b1 : (t539 != 0) = true := bne_iff_ne.mpr c5
  simp only [Option.some.injEq, Prod.mk.injEq] at H
  obtain ⟨rfl, rfl⟩ := H
  go_enter Try.func24, Try.ntmps24
  go_wp2_with (first | ((with_reducible refine gate_callee (f := 14) rfl ?_); refine goesL_ (some 20) rfl rfl Try.func14 (by kernel_rfl) rfl #[.int .i64 a0, .slice A1 l1.length c1] rfl (by (try simp only [List.map_toArray, List.map_cons, List.map_nil]); first | done | rfl | (simp only [List.length_drop, List.length_take]; rfl)) ?_; (with_reducible refine (r14_Close.calls k a0 _ _ l1 t538 t539 _ ?side1 ?side2 A4.out).mono ?_); (case side1 => exact gC (HR1.out)); (case side2 => exact HC1.out); rintro e w23 ⟨v540, rfl, ho0, hb⟩; refine ⟨_, rfl, ?_⟩; have n0_ := Aside0.mk (Kd.S_lower ho0 (below_size (bl HB.out))); have n1_ := Aside0.mk (below_step (bl HB.out) hb); clear HB; have HO541 := n0_; have HB := n1_; clear n0_ n1_; (try clear hb); (try clear hb2); (try clear hk); (try clear hi); (try clear ho0)))
  go_ret2
  exact ⟨_, by first | rfl | (simp [errW_none, errW_some] <;> rfl) | (simp [*, errW_none, errW_some] <;> rfl), by first | exact Kd.R_nil _ _ _ _ _ | exact Kd.N_nil _ _ _ _ _ | exact Kd.V_nil _ _ _ _ _ | exact Kd.Q_nil _ _ _ _ _ | exact Kd.S_nil _ _ _ _ _, bl HB.out⟩
def r14_Keeps.j0 : Nat → List Int → Bool → Int → Int → Int → Option (Bool)
 | 0, _, _, _, _, _ => none
 | k + 1, x1, x28, x553000, x553001, x553002 => if x28 = true then (some false) else (if x553000 ≥ 0 then (if 0 ≤ x553000 then (if x553000 < (x1.length : Int) then (if x553001 ≥ 0 then (if 0 ≤ x553001 then (if x553001 < (x1.length : Int) then (some (decide ((rd x1 x553000) ≤ (wrap64 ((rd x1 x553001) + x553002))))) else (none)) else (none)) else (some (decide ((rd x1 x553000) ≤ (wrap64 (0 + x553002)))))) else (none)) else (none)) else (if x553001 ≥ 0 then (if 0 ≤ x553001 then (if x553001 < (x1.length : Int) then (some (decide (0 ≤ (wrap64 ((rd x1 x553001) + x553002))))) else (none)) else (none)) else (some (decide (0 ≤ (wrap64 (0 + x553002)))))))
def r14_Keeps.f (k : Nat) (a0_0 : Int) (a0_1 : Int) (a0_2 : Int) (l1 : List Int) : Option (Bool) := if a0_0 < (-1) then (r14_Keeps.j0 k l1 true a0_0 a0_1 a0_2) else (if a0_0 ≥ (l1.length : Int) then (r14_Keeps.j0 k l1 true a0_0 a0_1 a0_2) else (if a0_1 < (-1) then (r14_Keeps.j0 k l1 true a0_0 a0_1 a0_2) else (r14_Keeps.j0 k l1 (decide (a0_1 ≥ (l1.length : Int))) a0_0 a0_1 a0_2)))
theorem r14_Keeps.mono_l : ∀ k, (∀ y0 y1 y2 y3 y4, LeO (r14_Keeps.j0 k y0 y1 y2 y3 y4) (r14_Keeps.j0 (k + 1) y0 y1 y2 y3 y4))
 | 0 => fun _ _ _ _ _ r h => by simp [r14_Keeps.j0] at h
 | k + 1 => by
  have ih0 := r14_Keeps.mono_l k
  ·intro y0 y1 y2 y3 y4
   unfold r14_Keeps.j0
   repeat' first
   | (with_reducible exact ih0 _ _ _ _ _)
   | (with_reducible exact LeO.refl _)
   | (with_reducible exact LeO.none _)
   | (with_reducible refine LeO.ite ?_ ?_)
   | (with_reducible refine LeO.bind ?_ (fun _ => ?_))
   | exact LeO.none _
   | refine LeO.ite ?_ ?_
   | refine LeO.bind ?_ (fun _ => ?_)
theorem r14_Keeps.mono : ∀ a0 a1 a2 a3 k, LeO (r14_Keeps.f k a0 a1 a2 a3) (r14_Keeps.f (k + 1) a0 a1 a2 a3) := by
 intro a0 a1 a2 a3 k
 have ih0 := r14_Keeps.mono_l k
 unfold r14_Keeps.f
 repeat' first
   | (with_reducible exact ih0 _ _ _ _ _)
   | (with_reducible exact LeO.refl _)
   | (with_reducible exact LeO.none _)
   | (with_reducible refine LeO.ite ?_ ?_)
   | (with_reducible refine LeO.bind ?_ (fun _ => ?_))
   | exact LeO.none _
   | refine LeO.ite ?_ ?_
   | refine LeO.bind ?_ (fun _ => ?_)
set_option maxHeartbeats 8000000 in
set_option maxRecDepth 100000 in
theorem r14_Keeps.calls (k : Nat) (a0_0 : Int) (a0_1 : Int) (a0_2 : Int) (A1 : Option Addr) (c1 : Nat) (l1 : List Int) (r : Bool) (w : World) (hr1 : Kd.C (Kd.int .i64) w A1 l1.length l1) (hc1 : l1.length ≤ c1) (h : r14_Keeps.f k a0_0 a0_1 a0_2 l1 = some r) :
  Calls Try.prog 45 #[.agg #[.int .i64 a0_0, .int .i64 a0_1, .int .i64 a0_2], .slice A1 l1.length c1] w fun e w' => e = .returned (.bool r) ∧ Below w.heap.size w w' := by
 have hu54 := Try.underlying54
 have HR1 := Aside0.mk hr1
 have HC1 := Aside0.mk hc1
 clear hr1 hc1
 have HB := Aside0.mk (Below.refl w.heap.size w)
 have H : (if a0_0 < (-1) then (r14_Keeps.j0 k l1 true a0_0 a0_1 a0_2) else (if a0_0 ≥ (l1.length : Int) then (r14_Keeps.j0 k l1 true a0_0 a0_1 a0_2) else (if a0_1 < (-1) then (r14_Keeps.j0 k l1 true a0_0 a0_1 a0_2) else (r14_Keeps.j0 k l1 (decide (a0_1 ≥ (l1.length : Int))) a0_0 a0_1 a0_2)))) = some r := h
 clear h
 have HC3 := Aside0.mk H
 clear H
 go_enter Try.func45, Try.ntmps45
 go_upto_region 1 with (first | ((with_reducible refine gate_dst (N := 2) rfl ?_); (try (refine gate_guard (by rfl) ?_; dsimp only)); refine box_event ?hg (N := 2) ?hd (cs := #[.int .i64 a0_0, .int .i64 a0_1, .int .i64 a0_2]) (t := 54) ?hr ?_; (case hd => rfl); (case hg => rfl); (case hr => first | (go_simp; done) | (go_simp; rfl)); intro gb552 hg w4 hbox hb; have n0_ := Aside0.mk (below_step (bl HB.out) hb); have n1_ := Aside0.mk (hbox); have n2_ := Aside0.mk ((by rw [hg]; exact (below_size (bl HB.out)) : w.heap.size ≤ gb552)); have n3_ := Aside0.mk ((by rw [hg]; exact (below_size (bl HB.out)) : w.heap.size ≤ gb552)); clear HB; have HB := n0_; have BK552 := n1_; have GW552 := n2_; have GE552 := n3_; clear n0_ n1_ n2_ n3_; clear hb hbox hg))
 (try simp only [Act.put, List.setIfInBounds_toArray, List.set_cons_zero, List.set_cons_succ])
 go_cut [28] (fun v28 wc => ∃ (kq : Nat) (x28_2 : Bool), v28 = .bool x28_2 ∧ Aside0 (r14_Keeps.j0 kq l1 x28_2 a0_0 a0_1 a0_2 = some r) ∧ Aside0 (kq ≤ k) ∧ Aside0 (wc.heap[gb552]? = some (.cells #[.int .i64 a0_0, .int .i64 a0_1, .int .i64 a0_2] 54 (0, 0))) ∧ Aside0 (Below w.heap.size w wc))
 case first =>
  have H := HC3.out
  clear HC3
  by_cases c5 : a0_0 < (-1)
  ·rw [if_pos c5] at H
   have c5b0 : decide (a0_0 < (-1)) = true := decide_eq_true c5
   clear c5
   (first | rw [c5b0] | (simp only [i64_w, i32_w]; rw [c5b0]) | skip)
   have H' := Aside0.mk H
   clear H
   have hcz6_0 : w4.cell? ⟨gb552, 0, none⟩ = some (.int .i64 a0_0) := (blk_cell BK552.out 0).trans rfl
   have hcz6_1 : w4.cell? ⟨gb552, 1, none⟩ = some (.int .i64 a0_1) := (blk_cell BK552.out 1).trans rfl
   have hcz6_2 : w4.cell? ⟨gb552, 2, none⟩ = some (.int .i64 a0_2) := (blk_cell BK552.out 2).trans rfl
   have hfz6_0 := blk_frozen BK552.out 0
   have hfz6_1 := blk_frozen BK552.out 1
   have hfz6_2 := blk_frozen BK552.out 2
   go_wp2
   go_meet
   case rel => exact ⟨_, (true), (by first | rfl | (simp; done) | (simp [*]; done)), H', ⟨by first | omega | exact Nat.le_refl _⟩, ⟨by (with_reducible repeat (first | refine blk_drewN ?_ _ | refine blk_drew ?_ | refine blk_alloc ?_ _)); exact BK552.out⟩, ⟨by repeat (first | (with_reducible first | exact HB.out | apply below_alloc | apply pw_below_drewN | apply below_drew1 | refine below_set ?_ GE552.out) | exact HB.out)⟩⟩
  ·rw [if_neg c5] at H
   have c5b0 : decide (a0_0 < (-1)) = false := decide_eq_false c5
   clear c5
   (first | rw [c5b0] | (simp only [i64_w, i32_w]; rw [c5b0]) | skip)
   by_cases c7 : a0_0 ≥ (l1.length : Int)
   ·rw [if_pos c7] at H
    have c7b0 : decide ((l1.length : Int) ≤ a0_0) = true := decide_eq_true c7
    clear c7
    have H' := Aside0.mk H
    clear H
    have hcz8_0 : w4.cell? ⟨gb552, 0, none⟩ = some (.int .i64 a0_0) := (blk_cell BK552.out 0).trans rfl
    have hcz8_1 : w4.cell? ⟨gb552, 1, none⟩ = some (.int .i64 a0_1) := (blk_cell BK552.out 1).trans rfl
    have hcz8_2 : w4.cell? ⟨gb552, 2, none⟩ = some (.int .i64 a0_2) := (blk_cell BK552.out 2).trans rfl
    have hfz8_0 := blk_frozen BK552.out 0
    have hfz8_1 := blk_frozen BK552.out 1
    have hfz8_2 := blk_frozen BK552.out 2
    go_wp2
    go_meet
    case rel => exact ⟨_, (true), (by first | rfl | (simp; done) | (simp [*]; done)), H', ⟨by first | omega | exact Nat.le_refl _⟩, ⟨by (with_reducible repeat (first | refine blk_drewN ?_ _ | refine blk_drew ?_ | refine blk_alloc ?_ _)); exact BK552.out⟩, ⟨by repeat (first | (with_reducible first | exact HB.out | apply below_alloc | apply pw_below_drewN | apply below_drew1 | refine below_set ?_ GE552.out) | exact HB.out)⟩⟩
   ·rw [if_neg c7] at H
    have c7b0 : decide ((l1.length : Int) ≤ a0_0) = false := decide_eq_false c7
    clear c7
    by_cases c9 : a0_1 < (-1)
    ·rw [if_pos c9] at H
     have c9b0 : decide (a0_1 < (-1)) = true := decide_eq_true c9
     clear c9
     have H' := Aside0.mk H
     clear H
     have hcz10_0 : w4.cell? ⟨gb552, 0, none⟩ = some (.int .i64 a0_0) := (blk_cell BK552.out 0).trans rfl
     have hcz10_1 : w4.cell? ⟨gb552, 1, none⟩ = some (.int .i64 a0_1) := (blk_cell BK552.out 1).trans rfl
     have hcz10_2 : w4.cell? ⟨gb552, 2, none⟩ = some (.int .i64 a0_2) := (blk_cell BK552.out 2).trans rfl
     have hfz10_0 := blk_frozen BK552.out 0
     have hfz10_1 := blk_frozen BK552.out 1
     have hfz10_2 := blk_frozen BK552.out 2
     go_wp2
     go_meet
     case rel => exact ⟨_, (true), (by first | rfl | (simp; done) | (simp [*]; done)), H', ⟨by first | omega | exact Nat.le_refl _⟩, ⟨by (with_reducible repeat (first | refine blk_drewN ?_ _ | refine blk_drew ?_ | refine blk_alloc ?_ _)); exact BK552.out⟩, ⟨by repeat (first | (with_reducible first | exact HB.out | apply below_alloc | apply pw_below_drewN | apply below_drew1 | refine below_set ?_ GE552.out) | exact HB.out)⟩⟩
    ·rw [if_neg c9] at H
     have c9b0 : decide (a0_1 < (-1)) = false := decide_eq_false c9
     clear c9
     have H' := Aside0.mk H
     clear H
     have hcz11_0 : w4.cell? ⟨gb552, 0, none⟩ = some (.int .i64 a0_0) := (blk_cell BK552.out 0).trans rfl
     have hcz11_1 : w4.cell? ⟨gb552, 1, none⟩ = some (.int .i64 a0_1) := (blk_cell BK552.out 1).trans rfl
     have hcz11_2 : w4.cell? ⟨gb552, 2, none⟩ = some (.int .i64 a0_2) := (blk_cell BK552.out 2).trans rfl
     have hfz11_0 := blk_frozen BK552.out 0
     have hfz11_1 := blk_frozen BK552.out 1
     have hfz11_2 := blk_frozen BK552.out 2
     go_wp2
     go_meet
     case rel => exact ⟨_, (decide (a0_1 ≥ (l1.length : Int))), (by first | rfl | (simp; done) | (simp [*]; done)), H', ⟨by first | omega | exact Nat.le_refl _⟩, ⟨by (with_reducible repeat (first | refine blk_drewN ?_ _ | refine blk_drew ?_ | refine blk_alloc ?_ _)); exact BK552.out⟩, ⟨by repeat (first | (with_reducible first | exact HB.out | apply below_alloc | apply pw_below_drewN | apply below_drew1 | refine below_set ?_ GE552.out) | exact HB.out)⟩⟩
 case rest =>
  clear HC3
  try clear c1
  try clear p2
  try clear c4
  try clear c5
  try clear c5b0
  try clear c7
  try clear c7b0
  try clear c9
  try clear c9b0
  try clear hcz10_0
  try clear hcz10_1
  try clear hcz10_2
  try clear hcz11_0
  try clear hcz11_1
  try clear hcz11_2
  try clear hcz6_0
  try clear hcz6_1
  try clear hcz6_2
  try clear hcz8_0
  try clear hcz8_1
  try clear hcz8_2
  try clear hfz10_0
  try clear hfz10_1
  try clear hfz10_2
  try clear hfz11_0
  try clear hfz11_1
  try clear hfz11_2
  try clear hfz6_0
  try clear hfz6_1
  try clear hfz6_2
  try clear hfz8_0
  try clear hfz8_1
  try clear hfz8_2
  obtain ⟨kq, x28_2, rfl, HA, HJ2, BK552, HB⟩ := hcut
  cases kq with
  | zero => exact absurd HA.out (by simp [r14_Keeps.j0])
  | succ kj2 =>
   have H := HA.out
   clear HA
   simp only [r14_Keeps.j0] at H
   by_cases c12 : x28_2 = true
   ·subst c12
    have H1 : (some false) = some r := by rw [if_pos rfl] at H; exact H
    clear H
    have H := H1
    clear H1
    obtain rfl := Option.some.inj H
    go_wp2
    go_ret
    exact ⟨by first | rfl | (simp [errW_none, errW_some] <;> rfl) | (simp [*, errW_none, errW_some] <;> rfl), by repeat (first | (with_reducible first | exact HB.out | apply below_alloc | apply pw_below_drewN | apply below_drew1 | refine below_set ?_ GE552.out) | exact HB.out)⟩
   ·replace c12 := Bool.eq_false_iff.mpr c12
    subst c12
    have H1 : (if a0_0 ≥ 0 then (if 0 ≤ a0_0 then (if a0_0 < (l1.length : Int) then (if a0_1 ≥ 0 then (if 0 ≤ a0_1 then (if a0_1 < (l1.length : Int) then (some (decide ((rd l1 a0_0) ≤ (wrap64 ((rd l1 a0_1) + a0_2))))) else (none)) else (none)) else (some (decide ((rd l1 a0_0) ≤ (wrap64 (0 + a0_2)))))) else (none)) else (none)) else (if a0_1 ≥ 0 then (if 0 ≤ a0_1 then (if a0_1 < (l1.length : Int) then (some (decide (0 ≤ (wrap64 ((rd l1 a0_1) + a0_2))))) else (none)) else (none)) else (some (decide (0 ≤ (wrap64 (0 + a0_2))))))) = some r := by rw [if_neg (show ¬ (false = true) by decide)] at H; exact H
    clear H
    have H := H1
    clear H1
    by_cases c13 : a0_0 ≥ 0
    ·rw [if_pos c13] at H
     have c13b0 : decide (0 ≤ a0_0) = true := decide_eq_true c13
     clear c13
     by_cases c14 : 0 ≤ a0_0
     case neg => rw [if_neg c14] at H; exact absurd H (by simp)
     rw [if_pos c14] at H
     have c14b0 : decide (0 ≤ a0_0) = true := decide_eq_true c14
     clear c14
     by_cases c15 : a0_0 < (l1.length : Int)
     case neg => rw [if_neg c15] at H; exact absurd H (by simp)
     rw [if_pos c15] at H
     have c15b0 : decide (a0_0 < (l1.length : Int)) = true := decide_eq_true c15
     clear c15
     by_cases c16 : a0_1 ≥ 0
     ·rw [if_pos c16] at H
      have c16b0 : decide (0 ≤ a0_1) = true := decide_eq_true c16
      clear c16
      by_cases c17 : 0 ≤ a0_1
      case neg => rw [if_neg c17] at H; exact absurd H (by simp)
      rw [if_pos c17] at H
      have c17b0 : decide (0 ≤ a0_1) = true := decide_eq_true c17
      clear c17
      by_cases c18 : a0_1 < (l1.length : Int)
      case neg => rw [if_neg c18] at H; exact absurd H (by simp)
      rw [if_pos c18] at H
      have c18b0 : decide (a0_1 < (l1.length : Int)) = true := decide_eq_true c18
      clear c18
      obtain rfl := Option.some.inj H
      have hcz19_0 : wc.cell? ⟨gb552, 0, none⟩ = some (.int .i64 a0_0) := (blk_cell BK552.out 0).trans rfl
      have hcz19_1 : wc.cell? ⟨gb552, 1, none⟩ = some (.int .i64 a0_1) := (blk_cell BK552.out 1).trans rfl
      have hcz19_2 : wc.cell? ⟨gb552, 2, none⟩ = some (.int .i64 a0_2) := (blk_cell BK552.out 2).trans rfl
      have hfz19_0 := blk_frozen BK552.out 0
      have hfz19_1 := blk_frozen BK552.out 1
      have hfz19_2 := blk_frozen BK552.out 2
      have p553 : 0 ≤ (a0_0 : Int) := of_decide_eq_true (by assumption)
      have q553 : a0_0 < (l1.length : Int) := of_decide_eq_true (by assumption)
      obtain ⟨ad553, e553, hx553_0⟩ := Kd.at_int HR1.out a0_0 p553 q553
      cases e553
      replace hx553_0 := (HB.out.cell (World.block_lt_of_cell? w _ hx553_0)).trans hx553_0
      replace p553 := eq_true p553
      replace q553 := eq_true q553
      have p554 : 0 ≤ (a0_1 : Int) := of_decide_eq_true (by assumption)
      have q554 : a0_1 < (l1.length : Int) := of_decide_eq_true (by assumption)
      obtain ⟨ad554, e554, hx554_0⟩ := Kd.at_int HR1.out a0_1 p554 q554
      obtain rfl : ad553 = ad554 := (by injection e554)
      replace hx554_0 := (HB.out.cell (World.block_lt_of_cell? w _ hx554_0)).trans hx554_0
      replace p554 := eq_true p554
      replace q554 := eq_true q554
      go_wp2
      go_ret
      exact ⟨by first | rfl | (simp [errW_none, errW_some] <;> rfl) | (simp [*, errW_none, errW_some] <;> rfl), by repeat (first | (with_reducible first | exact HB.out | apply below_alloc | apply pw_below_drewN | apply below_drew1 | refine below_set ?_ GE552.out) | exact HB.out)⟩
     ·rw [if_neg c16] at H
      have c16b0 : decide (0 ≤ a0_1) = false := decide_eq_false c16
      clear c16
      obtain rfl := Option.some.inj H
      have hcz20_0 : wc.cell? ⟨gb552, 0, none⟩ = some (.int .i64 a0_0) := (blk_cell BK552.out 0).trans rfl
      have hcz20_1 : wc.cell? ⟨gb552, 1, none⟩ = some (.int .i64 a0_1) := (blk_cell BK552.out 1).trans rfl
      have hcz20_2 : wc.cell? ⟨gb552, 2, none⟩ = some (.int .i64 a0_2) := (blk_cell BK552.out 2).trans rfl
      have hfz20_0 := blk_frozen BK552.out 0
      have hfz20_1 := blk_frozen BK552.out 1
      have hfz20_2 := blk_frozen BK552.out 2
      have p553 : 0 ≤ (a0_0 : Int) := of_decide_eq_true (by assumption)
      have q553 : a0_0 < (l1.length : Int) := of_decide_eq_true (by assumption)
      obtain ⟨ad553, e553, hx553_0⟩ := Kd.at_int HR1.out a0_0 p553 q553
      cases e553
      replace hx553_0 := (HB.out.cell (World.block_lt_of_cell? w _ hx553_0)).trans hx553_0
      replace p553 := eq_true p553
      replace q553 := eq_true q553
      go_wp2
      go_ret
      exact ⟨by first | rfl | (simp [errW_none, errW_some] <;> rfl) | (simp [*, errW_none, errW_some] <;> rfl), by repeat (first | (with_reducible first | exact HB.out | apply below_alloc | apply pw_below_drewN | apply below_drew1 | refine below_set ?_ GE552.out) | exact HB.out)⟩
    ·rw [if_neg c13] at H
     have c13b0 : decide (0 ≤ a0_0) = false := decide_eq_false c13
     clear c13
     by_cases c21 : a0_1 ≥ 0
     ·rw [if_pos c21] at H
      have c21b0 : decide (0 ≤ a0_1) = true := decide_eq_true c21
      clear c21
      by_cases c22 : 0 ≤ a0_1
      case neg => rw [if_neg c22] at H; exact absurd H (by simp)
      rw [if_pos c22] at H
      have c22b0 : decide (0 ≤ a0_1) = true := decide_eq_true c22
      clear c22
      by_cases c23 : a0_1 < (l1.length : Int)
      case neg => rw [if_neg c23] at H; exact absurd H (by simp)
      rw [if_pos c23] at H
      have c23b0 : decide (a0_1 < (l1.length : Int)) = true := decide_eq_true c23
      clear c23
      obtain rfl := Option.some.inj H
      have hcz24_0 : wc.cell? ⟨gb552, 0, none⟩ = some (.int .i64 a0_0) := (blk_cell BK552.out 0).trans rfl
      have hcz24_1 : wc.cell? ⟨gb552, 1, none⟩ = some (.int .i64 a0_1) := (blk_cell BK552.out 1).trans rfl
      have hcz24_2 : wc.cell? ⟨gb552, 2, none⟩ = some (.int .i64 a0_2) := (blk_cell BK552.out 2).trans rfl
      have hfz24_0 := blk_frozen BK552.out 0
      have hfz24_1 := blk_frozen BK552.out 1
      have hfz24_2 := blk_frozen BK552.out 2
      have p555 : 0 ≤ (a0_1 : Int) := of_decide_eq_true (by assumption)
      have q555 : a0_1 < (l1.length : Int) := of_decide_eq_true (by assumption)
      obtain ⟨ad555, e555, hx555_0⟩ := Kd.at_int HR1.out a0_1 p555 q555
      cases e555
      replace hx555_0 := (HB.out.cell (World.block_lt_of_cell? w _ hx555_0)).trans hx555_0
      replace p555 := eq_true p555
      replace q555 := eq_true q555
      go_wp2
      go_ret
      exact ⟨by first | rfl | (simp [errW_none, errW_some] <;> rfl) | (simp [*, errW_none, errW_some] <;> rfl), by repeat (first | (with_reducible first | exact HB.out | apply below_alloc | apply pw_below_drewN | apply below_drew1 | refine below_set ?_ GE552.out) | exact HB.out)⟩
     ·rw [if_neg c21] at H
      have c21b0 : decide (0 ≤ a0_1) = false := decide_eq_false c21
      clear c21
      obtain rfl := Option.some.inj H
      have hcz25_0 : wc.cell? ⟨gb552, 0, none⟩ = some (.int .i64 a0_0) := (blk_cell BK552.out 0).trans rfl
      have hcz25_1 : wc.cell? ⟨gb552, 1, none⟩ = some (.int .i64 a0_1) := (blk_cell BK552.out 1).trans rfl
      have hcz25_2 : wc.cell? ⟨gb552, 2, none⟩ = some (.int .i64 a0_2) := (blk_cell BK552.out 2).trans rfl
      have hfz25_0 := blk_frozen BK552.out 0
      have hfz25_1 := blk_frozen BK552.out 1
      have hfz25_2 := blk_frozen BK552.out 2
      go_wp2
      go_ret
      exact ⟨by first | rfl | (simp [errW_none, errW_some] <;> rfl) | (simp [*, errW_none, errW_some] <;> rfl), by repeat (first | (with_reducible first | exact HB.out | apply below_alloc | apply pw_below_drewN | apply below_drew1 | refine below_set ?_ GE552.out) | exact HB.out)⟩
def r14_Holds.l0 : Nat → List (S54) → List Int → Int → Option (Int)
 | 0, _, _, _ => none
 | k + 1, x0, x1, x5 => if x5 < (x0.length : Int) then (if 0 ≤ x5 then ((r14_Keeps.f k ((rd_T54 x0 x5).f0) ((rd_T54 x0 x5).f1) ((rd_T54 x0 x5).f2) x1).bind fun t557 => (if t557 = true then (r14_Holds.l0 k x0 x1 (wrap64 (x5 + 1))) else (some x5))) else (none)) else (some (-1))
def r14_Holds.f (k : Nat) (l0 : List (S54)) (l1 : List Int) : Option (Int) := r14_Holds.l0 k l0 l1 0
theorem r14_Holds.mono_l : ∀ k, (∀ y0 y1 y2, LeO (r14_Holds.l0 k y0 y1 y2) (r14_Holds.l0 (k + 1) y0 y1 y2))
 | 0 => fun _ _ _ r h => by simp [r14_Holds.l0] at h
 | k + 1 => by
  have ih0 := r14_Holds.mono_l k
  ·intro y0 y1 y2
   unfold r14_Holds.l0
   repeat' first
   | (with_reducible exact ih0 _ _ _)
   | (with_reducible exact r14_Keeps.mono _ _ _ _ _)
   | (with_reducible exact LeO.refl _)
   | (with_reducible exact LeO.none _)
   | (with_reducible refine LeO.ite ?_ ?_)
   | (with_reducible refine LeO.bind ?_ (fun _ => ?_))
   | exact LeO.none _
   | refine LeO.ite ?_ ?_
   | refine LeO.bind ?_ (fun _ => ?_)
theorem r14_Holds.mono : ∀ a0 a1 k, LeO (r14_Holds.f k a0 a1) (r14_Holds.f (k + 1) a0 a1) := by
 intro a0 a1 k
 have ih0 := r14_Holds.mono_l k
 unfold r14_Holds.f
 repeat' first
   | (with_reducible exact ih0 _ _ _)
   | (with_reducible exact r14_Keeps.mono _ _ _ _ _)
   | (with_reducible exact LeO.refl _)
   | (with_reducible exact LeO.none _)
   | (with_reducible refine LeO.ite ?_ ?_)
   | (with_reducible refine LeO.bind ?_ (fun _ => ?_))
   | exact LeO.none _
   | refine LeO.ite ?_ ?_
   | refine LeO.bind ?_ (fun _ => ?_)
set_option maxHeartbeats 8000000 in
set_option maxRecDepth 100000 in
theorem r14_Holds.calls (k : Nat) (A0 : Option Addr) (c0 : Nat) (l0 : List (S54)) (A1 : Option Addr) (c1 : Nat) (l1 : List Int) (r : Int) (w : World) (hr0 : Kd.C k54 w A0 l0.length l0) (hc0 : l0.length ≤ c0) (hr1 : Kd.C (Kd.int .i64) w A1 l1.length l1) (hc1 : l1.length ≤ c1) (h : r14_Holds.f k l0 l1 = some r) :
  Calls Try.prog 26 #[.slice A0 l0.length c0, .slice A1 l1.length c1] w fun e w' => e = .returned (.int .i64 r) ∧ Below w.heap.size w w' := by
 have hu54 := Try.underlying54
 have HR0 := Aside0.mk hr0
 have HC0 := Aside0.mk hc0
 clear hr0 hc0
 have HR1 := Aside0.mk hr1
 have HC1 := Aside0.mk hc1
 clear hr1 hc1
 have HB := Aside0.mk (Below.refl w.heap.size w)
 have H : (r14_Holds.l0 k l0 l1 0) = some r := h
 clear h
 have H' := Aside0.mk H
 clear H
 go_enter Try.func26, Try.ntmps26
 go_wp2
 go_loopg [5] k (fun kq v5 w' => ∃ (x5_1 : Int), v5 = .int .i64 x5_1 ∧ Aside0 (r14_Holds.l0 kq l0 l1 x5_1 = some r) ∧ Aside0 (kq ≤ k) ∧ Aside0 (Below w.heap.size w w'))
 case atStart => exact ⟨(0), (by first | rfl | (simp; done) | (simp [*]; done)), H', ⟨Nat.le_refl _⟩, ⟨bl HB.out⟩⟩
 case round =>
  clear H'
  try clear c1
  try clear c2
  try clear p2
  obtain ⟨x5_1, rfl, HA, HK1, HB⟩ := hrel
  cases gk with
  | zero => exact absurd HA.out (by simp [r14_Holds.l0])
  | succ k1 =>
   have H := HA.out
   clear HA
   simp only [r14_Holds.l0] at H
   by_cases c3 : x5_1 < (l0.length : Int)
   ·rw [if_pos c3] at H
    have c3b0 : decide (x5_1 < (l0.length : Int)) = true := decide_eq_true c3
    clear c3
    by_cases c4 : 0 ≤ x5_1
    case neg => rw [if_neg c4] at H; exact absurd H (by simp)
    rw [if_pos c4] at H
    have c4b0 : decide (0 ≤ x5_1) = true := decide_eq_true c4
    clear c4
    replace H := Option.bind_eq_some_iff.mp H
    obtain ⟨t557, A50, H⟩ := H
    replace H : (if t557 = true then (r14_Holds.l0 k1 l0 l1 (wrap64 (x5_1 + 1))) else (some x5_1)) = some r := H
    have A5 := Aside0.mk A50
    clear A50
    by_cases c6 : t557 = true
    ·subst c6
     have H1 : (r14_Holds.l0 k1 l0 l1 (wrap64 (x5_1 + 1))) = some r := by rw [if_pos rfl] at H; exact H
     clear H
     have H := H1
     clear H1
     have H' := Aside0.mk H
     clear H
     have p556 : 0 ≤ (x5_1 : Int) := of_decide_eq_true (by assumption)
     have q556 : x5_1 < (l0.length : Int) := of_decide_eq_true (by assumption)
     obtain ⟨ad556, e556, hx556_0, hx556_1, hx556_2⟩ := at_T54 HR0.out x5_1 p556 q556
     cases e556
     replace hx556_0 := (HB.out.cell (World.block_lt_of_cell? w _ hx556_0)).trans hx556_0
     replace hx556_1 := (HB.out.cell (World.block_lt_of_cell? w _ hx556_1)).trans hx556_1
     replace hx556_2 := (HB.out.cell (World.block_lt_of_cell? w _ hx556_2)).trans hx556_2
     replace p556 := eq_true p556
     replace q556 := eq_true q556
     go_wp2_with (first | ((with_reducible refine gate_callee (f := 45) rfl ?_); refine goesL_ (some 17) rfl rfl Try.func45 (by kernel_rfl) rfl #[.agg #[.int .i64 ((rd_T54 l0 x5_1).f0), .int .i64 ((rd_T54 l0 x5_1).f1), .int .i64 ((rd_T54 l0 x5_1).f2)], .slice A1 l1.length c1] rfl (by (try simp only [List.map_toArray, List.map_cons, List.map_nil]); first | done | rfl | (simp only [List.length_drop, List.length_take]; rfl)) ?_; (with_reducible refine (r14_Keeps.calls k1 ((rd_T54 l0 x5_1).f0) ((rd_T54 l0 x5_1).f1) ((rd_T54 l0 x5_1).f2) _ _ l1 true _ ?side1 ?side2 A5.out).mono ?_); (case side1 => exact gC ((Kd.C_below HR1.out HB.out))); (case side2 => exact HC1.out); rintro e w7 ⟨rfl, hb⟩; refine ⟨_, rfl, ?_⟩; have n0_ := Aside0.mk (below_step (bl HB.out) hb); clear HB; have HB := n0_; clear n0_; (try clear hb); (try clear hb2); (try clear hk); (try clear hi)))
     go_roundg k1
     case measure => have := HK1.out; omega
     case rel => exact ⟨(wrap64 (x5_1 + 1)), (by first | rfl | (simp; done) | (simp [*]; done)), H', ⟨by have := HK1.out; omega⟩, ⟨bl HB.out⟩⟩
    ·replace c6 := Bool.eq_false_iff.mpr c6
     subst c6
     have H1 : (some x5_1) = some r := by rw [if_neg (show ¬ (false = true) by decide)] at H; exact H
     clear H
     have H := H1
     clear H1
     obtain rfl := Option.some.inj H
     have p556 : 0 ≤ (x5_1 : Int) := of_decide_eq_true (by assumption)
     have q556 : x5_1 < (l0.length : Int) := of_decide_eq_true (by assumption)
     obtain ⟨ad556, e556, hx556_0, hx556_1, hx556_2⟩ := at_T54 HR0.out x5_1 p556 q556
     cases e556
     replace hx556_0 := (HB.out.cell (World.block_lt_of_cell? w _ hx556_0)).trans hx556_0
     replace hx556_1 := (HB.out.cell (World.block_lt_of_cell? w _ hx556_1)).trans hx556_1
     replace hx556_2 := (HB.out.cell (World.block_lt_of_cell? w _ hx556_2)).trans hx556_2
     replace p556 := eq_true p556
     replace q556 := eq_true q556
     go_wp2_with (first | ((with_reducible refine gate_callee (f := 45) rfl ?_); refine goesL_ (some 17) rfl rfl Try.func45 (by kernel_rfl) rfl #[.agg #[.int .i64 ((rd_T54 l0 x5_1).f0), .int .i64 ((rd_T54 l0 x5_1).f1), .int .i64 ((rd_T54 l0 x5_1).f2)], .slice A1 l1.length c1] rfl (by (try simp only [List.map_toArray, List.map_cons, List.map_nil]); first | done | rfl | (simp only [List.length_drop, List.length_take]; rfl)) ?_; (with_reducible refine (r14_Keeps.calls k1 ((rd_T54 l0 x5_1).f0) ((rd_T54 l0 x5_1).f1) ((rd_T54 l0 x5_1).f2) _ _ l1 false _ ?side1 ?side2 A5.out).mono ?_); (case side1 => exact gC ((Kd.C_below HR1.out HB.out))); (case side2 => exact HC1.out); rintro e w8 ⟨rfl, hb⟩; refine ⟨_, rfl, ?_⟩; have n0_ := Aside0.mk (below_step (bl HB.out) hb); clear HB; have HB := n0_; clear n0_; (try clear hb); (try clear hb2); (try clear hk); (try clear hi)))
     go_ret
     exact ⟨by first | rfl | (simp [errW_none, errW_some] <;> rfl) | (simp [*, errW_none, errW_some] <;> rfl), bl HB.out⟩
   ·rw [if_neg c3] at H
    have c3b0 : decide (x5_1 < (l0.length : Int)) = false := decide_eq_false c3
    clear c3
    obtain rfl := Option.some.inj H
    go_wp2
    go_ret
    exact ⟨by first | rfl | (simp [errW_none, errW_some] <;> rfl) | (simp [*, errW_none, errW_some] <;> rfl), bl HB.out⟩
end Go.Proofs.Ytcnkjcbjlopkmaa.Q
