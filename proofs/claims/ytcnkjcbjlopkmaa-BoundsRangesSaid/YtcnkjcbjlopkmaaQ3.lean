-- Written out of the translation by a program of this session (wip/tools/myprint.py, over the kit's print). Lean checks it.
import Derived.Test.YtcnkjcbjlopkmaaSh
import Derived.Test.YtcnkjcbjlopkmaaQ0
namespace Go.Proofs.Ytcnkjcbjlopkmaa.Q
open Go.RowKit Go.Proofs.YtcnkjcbjlopkmaaW.PrintWords Go.Proofs.YtcnkjcbjlopkmaaW.PrintLast Go.Proofs.YtcnkjcbjlopkmaaW.PrintMore
attribute [local go_sem] max2_int min2_int max_two min_two max_three min_three max_four min_four   -- for this text's walks alone
set_option linter.unusedVariables false
set_option linter.unusedSimpArgs false

/-! ### bounds_edges: function 28 -/
mutual
def bounds_edges.j0 : Nat → Int → List (S55) → Bool → Option ((List (S78)) × Int)
 | 0, _, _, _ => none
 | k + 1, x0, x1, x15 => if x15 = true then (some (([] : List (S78)), 4)) else (if x0 < 0 then (some (([] : List (S78)), 1)) else (if 0 ≤ (x1.length : Int) then (if ((x1.length : Int) : Int).toNat ≤ 11728124029610 then (bounds_edges.l0 k x0 (List.replicate ((x1.length : Int) : Int).toNat z78) x1 (x1.length : Int) 0) else (none)) else (none)))
def bounds_edges.l0 : Nat → Int → List (S78) → List (S55) → Int → Int → Option ((List (S78)) × Int)
 | 0, _, _, _, _, _ => none
 | k + 1, x0, x6, x21, x22, x23 => if x23 < x22 then (if 0 ≤ x23 then (if x23 < (x21.length : Int) then (if (mn ((rd_T55 x21 x23).f0) ((rd_T55 x21 x23).f1)) < (-1) then (some (([] : List (S78)), 1)) else (if (mx ((rd_T55 x21 x23).f0) ((rd_T55 x21 x23).f1)) ≥ x0 then (some (([] : List (S78)), 1)) else (if ((rd_T55 x21 x23).f0) = ((rd_T55 x21 x23).f1) then (some (([] : List (S78)), 1)) else (if ((rd_T55 x21 x23).f2) < (-2097152) then (some (([] : List (S78)), 1)) else (if ((rd_T55 x21 x23).f2) > 2097152 then (some (([] : List (S78)), 1)) else (if (wrap64 (x0 + 1)) = 0 then (none) else (if x23 < (x6.length : Int) then (bounds_edges.l0 k x0 (x6.set (x23 : Int).toNat (⟨Int.tmod (wrap64 ((wrap64 (((rd_T55 x21 x23).f0) + x0)) + 1)) (wrap64 (x0 + 1)), Int.tmod (wrap64 ((wrap64 (((rd_T55 x21 x23).f1) + x0)) + 1)) (wrap64 (x0 + 1)), (rd_T55 x21 x23).f2⟩ : S78)) x21 x22 (wrap64 (x23 + 1))) else (none)))))))) else (none)) else (none)) else (some (x6, 0))
end
def bounds_edges.f (k : Nat) (a0 : Int) (l1 : List (S55)) : Option ((List (S78)) × Int) := if a0 > 10 then (bounds_edges.j0 k a0 l1 true) else (bounds_edges.j0 k a0 l1 (decide ((l1.length : Int) > 64)))
theorem bounds_edges.mono_l : ∀ k, (∀ y0 y1 y2, LeO (bounds_edges.j0 k y0 y1 y2) (bounds_edges.j0 (k + 1) y0 y1 y2)) ∧ (∀ y0 y1 y2 y3 y4, LeO (bounds_edges.l0 k y0 y1 y2 y3 y4) (bounds_edges.l0 (k + 1) y0 y1 y2 y3 y4))
 | 0 => ⟨fun _ _ _ r h => by simp [bounds_edges.j0] at h, fun _ _ _ _ _ r h => by simp [bounds_edges.l0] at h⟩
 | k + 1 => by
  obtain ⟨ih0, ih1⟩ := bounds_edges.mono_l k
  refine ⟨?_, ?_⟩
  ·intro y0 y1 y2
   unfold bounds_edges.j0
   repeat' first
   | (with_reducible exact ih0 _ _ _)
   | (with_reducible exact ih1 _ _ _ _ _)
   | (with_reducible exact LeO.refl _)
   | (with_reducible exact LeO.none _)
   | (with_reducible refine LeO.ite ?_ ?_)
   | (with_reducible refine LeO.bind ?_ (fun _ => ?_))
   | exact LeO.none _
   | refine LeO.ite ?_ ?_
   | refine LeO.bind ?_ (fun _ => ?_)
  ·intro y0 y1 y2 y3 y4
   unfold bounds_edges.l0
   repeat' first
   | (with_reducible exact ih0 _ _ _)
   | (with_reducible exact ih1 _ _ _ _ _)
   | (with_reducible exact LeO.refl _)
   | (with_reducible exact LeO.none _)
   | (with_reducible refine LeO.ite ?_ ?_)
   | (with_reducible refine LeO.bind ?_ (fun _ => ?_))
   | exact LeO.none _
   | refine LeO.ite ?_ ?_
   | refine LeO.bind ?_ (fun _ => ?_)
theorem bounds_edges.mono : ∀ a0 a1 k, LeO (bounds_edges.f k a0 a1) (bounds_edges.f (k + 1) a0 a1) := by
 intro a0 a1 k
 obtain ⟨ih0, ih1⟩ := bounds_edges.mono_l k
 unfold bounds_edges.f
 repeat' first
   | (with_reducible exact ih0 _ _ _)
   | (with_reducible exact ih1 _ _ _ _ _)
   | (with_reducible exact LeO.refl _)
   | (with_reducible exact LeO.none _)
   | (with_reducible refine LeO.ite ?_ ?_)
   | (with_reducible refine LeO.bind ?_ (fun _ => ?_))
   | exact LeO.none _
   | refine LeO.ite ?_ ?_
   | refine LeO.bind ?_ (fun _ => ?_)
def bounds_edges.T11 : Bool × List (List Nat × List Nat) := (true, [([], []), ([], []), ([], []), ([2], [2]), ([], []), ([3, 4], [3, 4]), ([5], [5]), ([], []), ([7], [7]), ([6, 8], [6, 8]), ([], []), ([10], [10]), ([], []), ([11, 12], [11, 12]), ([13], [13]), ([], []), ([15], [15]), ([14, 16], [14, 16]), ([], []), ([18], [18]), ([9, 17, 19], [9, 17, 19]), ([0, 1, 0, 1, 2, 3, 4, 5, 6, 7, 8, 9, 10, 11, 12, 13, 14, 15, 16, 17, 18, 19, 20], [0, 1]), ([21, 20, 0, 1, 2, 3, 4, 5, 6, 7, 8, 9, 10, 11, 12, 13, 14, 15, 16, 17, 18, 19, 20], [20, 21])])
def bounds_edges.B11 : List Nat := [0, 0, 0, 4, 0, 28, 60, 0, 128, 508, 0, 1024, 0, 7168, 15360, 0, 32768, 130048, 0, 262144, 1048572, 2097151, 4194303]
theorem bounds_edges.tab11 : rtab .any (opsOf Try.f28 11) = bounds_edges.T11 := by kernel_rfl
theorem bounds_edges.bits11 : waitsOk bounds_edges.T11.2 bounds_edges.B11 = true := by kernel_rfl
set_option maxHeartbeats 8000000 in
set_option maxRecDepth 100000 in
theorem bounds_edges.calls (k : Nat) (a0 : Int) (A1 : Option Addr) (c1 : Nat) (l1 : List (S55)) (r1 : List (S78)) (r2 : Int) (w : World) (hr1 : Kd.C k55 w A1 l1.length l1) (hc1 : l1.length ≤ c1) (h : bounds_edges.f k a0 l1 = some (r1, r2)) :
  Calls Try.prog 28 #[.int .i64 a0, .slice A1 l1.length c1] w fun e w' => ∃ v0_ : Value, e = .returned (.tuple #[v0_, .int .i64 r2]) ∧ Kd.R k78 78 w' w.heap.size (fun _ => True) v0_ r1 ∧ Below w.heap.size w w' := by
 have hu55 := Try.underlying55
 have hu78 := Try.underlying78
 have HR1 := Aside0.mk hr1
 have HC1 := Aside0.mk hc1
 clear hr1 hc1
 have HB := Aside0.mk (Below.refl w.heap.size w)
 have H : (if a0 > 10 then (bounds_edges.j0 k a0 l1 true) else (bounds_edges.j0 k a0 l1 (decide ((l1.length : Int) > 64)))) = some (r1, r2) := h
 clear h
 have HC3 := Aside0.mk H
 clear H
 go_enter Try.func28, Try.ntmps28
 go_upto_region 1 with (fail)
 go_cut [15] (fun v15 wc => ∃ (kq : Nat) (x15_2 : Bool), v15 = .bool x15_2 ∧ Aside0 (bounds_edges.j0 kq a0 l1 x15_2 = some (r1, r2)) ∧ Aside0 (kq ≤ k) ∧ Aside0 (Below w.heap.size w wc))
 case first =>
  have H := HC3.out
  clear HC3
  by_cases c4 : a0 > 10
  ·rw [if_pos c4] at H
   have c4b0 : decide (10 < a0) = true := decide_eq_true c4
   clear c4
   (first | rw [c4b0] | (simp only [i64_w, i32_w]; rw [c4b0]) | skip)
   have H' := Aside0.mk H
   clear H
   go_wp2
   go_meet
   case rel => exact ⟨_, (true), (by first | rfl | (simp; done) | (simp [*]; done)), H', ⟨by first | omega | exact Nat.le_refl _⟩, ⟨bl HB.out⟩⟩
  ·rw [if_neg c4] at H
   have c4b0 : decide (10 < a0) = false := decide_eq_false c4
   clear c4
   (first | rw [c4b0] | (simp only [i64_w, i32_w]; rw [c4b0]) | skip)
   have H' := Aside0.mk H
   clear H
   go_wp2
   go_meet
   case rel => exact ⟨_, (decide ((l1.length : Int) > 64)), (by first | rfl | (simp; done) | (simp [*]; done)), H', ⟨by first | omega | exact Nat.le_refl _⟩, ⟨bl HB.out⟩⟩
 case rest =>
  clear HC3
  try clear c1
  try clear c2
  try clear p2
  try clear c4
  try clear c4b0
  obtain ⟨kq, x15_2, rfl, HA, HJ2, HB⟩ := hcut
  cases kq with
  | zero => exact absurd HA.out (by simp [bounds_edges.j0])
  | succ kj2 =>
   have H := HA.out
   clear HA
   simp only [bounds_edges.j0] at H
   by_cases c5 : x15_2 = true
   ·subst c5
    have H1 : (some (([] : List (S78)), 4)) = some (r1, r2) := by rw [if_pos rfl] at H; exact H
    clear H
    have H := H1
    clear H1
    simp only [Option.some.injEq, Prod.mk.injEq] at H
    obtain ⟨rfl, rfl⟩ := H
    go_wp2
    go_ret2
    exact ⟨_, by first | rfl | (simp [errW_none, errW_some] <;> rfl) | (simp [*, errW_none, errW_some] <;> rfl), by first | exact Kd.R_nil _ _ _ _ _ | exact Kd.N_nil _ _ _ _ _ | exact Kd.V_nil _ _ _ _ _ | exact Kd.Q_nil _ _ _ _ _ | exact Kd.S_nil _ _ _ _ _, bl HB.out⟩
   ·replace c5 := Bool.eq_false_iff.mpr c5
    subst c5
    have H1 : (if a0 < 0 then (some (([] : List (S78)), 1)) else (if 0 ≤ (l1.length : Int) then (if ((l1.length : Int) : Int).toNat ≤ 11728124029610 then (bounds_edges.l0 kj2 a0 (List.replicate ((l1.length : Int) : Int).toNat z78) l1 (l1.length : Int) 0) else (none)) else (none))) = some (r1, r2) := by rw [if_neg (show ¬ (false = true) by decide)] at H; exact H
    clear H
    have H := H1
    clear H1
    by_cases c6 : a0 < 0
    ·rw [if_pos c6] at H
     have c6b0 : decide (a0 < 0) = true := decide_eq_true c6
     clear c6
     simp only [Option.some.injEq, Prod.mk.injEq] at H
     obtain ⟨rfl, rfl⟩ := H
     go_wp2
     go_ret2
     exact ⟨_, by first | rfl | (simp [errW_none, errW_some] <;> rfl) | (simp [*, errW_none, errW_some] <;> rfl), by first | exact Kd.R_nil _ _ _ _ _ | exact Kd.N_nil _ _ _ _ _ | exact Kd.V_nil _ _ _ _ _ | exact Kd.Q_nil _ _ _ _ _ | exact Kd.S_nil _ _ _ _ _, bl HB.out⟩
    ·rw [if_neg c6] at H
     have c6b0 : decide (a0 < 0) = false := decide_eq_false c6
     clear c6
     by_cases c7 : 0 ≤ (l1.length : Int)
     ·rw [if_pos c7] at H
      have c7b0 := eq_true c7
      have c7b1 : decide (0 ≤ (l1.length : Int)) = true := decide_eq_true c7
      clear c7
      by_cases c8 : ((l1.length : Int) : Int).toNat ≤ 11728124029610
      case neg => rw [if_neg c8] at H; exact absurd H (by simp)
      rw [if_pos c8] at H
      have c8b0 := eq_true c8
      have c8b1 : decide (((l1.length : Int) : Int).toNat ≤ 11728124029610) = true := decide_eq_true c8
      clear c8
      obtain ⟨y158, hy158⟩ : ∃ y_ : List (S78), y_ = (List.replicate ((l1.length : Int) : Int).toNat z78) := ⟨_, rfl⟩
      replace H : (bounds_edges.l0 kj2 a0 y158 l1 (l1.length : Int) 0) = some (r1, r2) := by first | (rw [hy158]; with_reducible exact H) | (have H2_ := (Option.bind_some _ _).symm.trans H; rw [hy158]; with_reducible exact H2_) | (have H2_ := (Option.bind_some _ _).symm.trans H; with_reducible exact H2_) | with_reducible exact H | (rw [hy158]; exact H) | exact H
      have Ny158 := Aside0.mk hy158
      clear hy158
      have H' := Aside0.mk H
      clear H
      go_wp2_with (first | ((with_reducible refine gate_dst (N := 20) rfl ?_); (try (refine gate_guard (by rfl) ?_; dsimp only)); refine Kd.R_make k78 _ 78 rfl (N := 20) rfl 59 _ _ rfl (l1.length : Int) rfl rfl Try.underlying59 (.agg #[(.int .i64 0), (.int .i64 0), (.int .i64 0)]) 24 info78 rfl (by decide) (by omega) z78 (ok := fun _ => True) (okp := fun _ => True) (k78_mkM _ _ _ z78 ) (fun _ hk => hk) trivial (of_decide_eq_true (by assumption)) (Nat.le_trans (Nat.mul_le_mul_right _ (of_decide_eq_true (by assumption) : (l1.length : Int).toNat ≤ 11728124029610)) (by omega)) (Below.refl _ _) (Nat.le_refl _) ?_; intro v159 w9 ho10 hb hg_ hnew_; clear hg_ hnew_; (first | rw [← Ny158.out] at ho10 | (simp only [Int.reduceToNat] at ho10; rw [← Ny158.out] at ho10)); have n0_ := Aside0.mk (Kd.R_lower ho10 (below_size (bl HB.out))); have n1_ := Aside0.mk (below_step (bl HB.out) hb); clear HB; have HO160 := n0_; have HB := n1_; clear n0_ n1_; clear hb ho10))
      go_loopg [23] kj2 (fun kq v23 w' => ∃ (x6_2 : List (S78)) (x23_2 : Int), v23 = .int .i64 x23_2 ∧ Aside0 (bounds_edges.l0 kq a0 x6_2 l1 (l1.length : Int) x23_2 = some (r1, r2)) ∧ Aside0 (kq ≤ kj2) ∧ Aside0 (Kd.R k78 78 w' w.heap.size (fun _ => True) v159 x6_2) ∧ Aside0 (Below w.heap.size w w'))
      case atStart => exact ⟨(y158), (0), (by first | rfl | (simp; done) | (simp [*]; done)), H', ⟨Nat.le_refl _⟩, ⟨gR (HO160.out)⟩, ⟨bl HB.out⟩⟩
      case round =>
       clear H'
       try clear c1
       try clear c2
       try clear p2
       try clear c4
       try clear c4b0
       try clear c5
       try clear c6
       try clear c6b0
       try clear c7
       try clear c7b0
       try clear c7b1
       try clear c8
       try clear c8b0
       try clear c8b1
       try clear p2
       obtain ⟨x6_2, x23_2, rfl, HA, HK2, HO_6, HB⟩ := hrel
       cases gk with
       | zero => exact absurd HA.out (by simp [bounds_edges.l0])
       | succ k2 =>
        have H := HA.out
        clear HA
        simp only [bounds_edges.l0] at H
        by_cases c11 : x23_2 < (l1.length : Int)
        ·rw [if_pos c11] at H
         have c11b0 : decide (x23_2 < (l1.length : Int)) = true := decide_eq_true c11
         clear c11
         by_cases c12 : 0 ≤ x23_2
         case neg => rw [if_neg c12] at H; exact absurd H (by simp)
         rw [if_pos c12] at H
         have c12b0 : decide (0 ≤ x23_2) = true := decide_eq_true c12
         clear c12
         by_cases c13 : x23_2 < (l1.length : Int)
         case neg => rw [if_neg c13] at H; exact absurd H (by simp)
         rw [if_pos c13] at H
         have c13b0 : decide (x23_2 < (l1.length : Int)) = true := decide_eq_true c13
         clear c13
         obtain ⟨ji14, hji14⟩ : ∃ j_ : Int, (mn ((rd_T55 l1 x23_2).f0) ((rd_T55 l1 x23_2).f1)) = j_ := ⟨_, rfl⟩
         replace H : (if (ji14) < (-1) then (some (([] : List (S78)), 1)) else (if (mx ((rd_T55 l1 x23_2).f0) ((rd_T55 l1 x23_2).f1)) ≥ a0 then (some (([] : List (S78)), 1)) else (if ((rd_T55 l1 x23_2).f0) = ((rd_T55 l1 x23_2).f1) then (some (([] : List (S78)), 1)) else (if ((rd_T55 l1 x23_2).f2) < (-2097152) then (some (([] : List (S78)), 1)) else (if ((rd_T55 l1 x23_2).f2) > 2097152 then (some (([] : List (S78)), 1)) else (if (wrap64 (a0 + 1)) = 0 then (none) else (if x23_2 < (x6_2.length : Int) then (bounds_edges.l0 k2 a0 (x6_2.set (x23_2 : Int).toNat (⟨Int.tmod (wrap64 ((wrap64 (((rd_T55 l1 x23_2).f0) + a0)) + 1)) (wrap64 (a0 + 1)), Int.tmod (wrap64 ((wrap64 (((rd_T55 l1 x23_2).f1) + a0)) + 1)) (wrap64 (a0 + 1)), (rd_T55 l1 x23_2).f2⟩ : S78)) l1 (l1.length : Int) (wrap64 (x23_2 + 1))) else (none)))))))) = some (r1, r2) := by first | (rw [hji14] at H; exact H) | (simp only [hji14] at H ⊢; exact H)
         have hji14_ : (if ((rd_T55 l1 x23_2).f1) < ((rd_T55 l1 x23_2).f0) then ((rd_T55 l1 x23_2).f1) else ((rd_T55 l1 x23_2).f0)) = ji14 := hji14
         by_cases c15 : (ji14) < (-1)
         ·rw [if_pos c15] at H
          have c15b0 : decide ((ji14) < (-1)) = true := decide_eq_true c15
          clear c15
          simp only [Option.some.injEq, Prod.mk.injEq] at H
          obtain ⟨rfl, rfl⟩ := H
          have p161 : 0 ≤ (x23_2 : Int) := of_decide_eq_true (by assumption)
          have q161 : x23_2 < (l1.length : Int) := of_decide_eq_true (by assumption)
          obtain ⟨ad161, e161, hx161_0, hx161_1, hx161_2⟩ := at_T55 HR1.out x23_2 p161 q161
          cases e161
          replace hx161_0 := (HB.out.cell (World.block_lt_of_cell? w _ hx161_0)).trans hx161_0
          replace hx161_1 := (HB.out.cell (World.block_lt_of_cell? w _ hx161_1)).trans hx161_1
          replace hx161_2 := (HB.out.cell (World.block_lt_of_cell? w _ hx161_2)).trans hx161_2
          replace p161 := eq_true p161
          replace q161 := eq_true q161
          go_wp2_with (first | ((with_reducible refine gate_dst (N := 8) rfl ?_); (try (refine gate_guard (by rfl) ?_; dsimp only)); refine box_event ?hg (N := 8) ?hd (cs := #[.int .i64 0, .int .i64 0, .int .i64 0]) (t := 55) ?hr ?_; (case hd => rfl); (case hg => rfl); (case hr => first | (go_simp; done) | (go_simp; rfl)); intro gb162 hg w16 hbox hb; have n0_ := Aside0.mk (Kd.R_below (gR (HO_6.out)) hb); have n1_ := Aside0.mk (below_step (bl HB.out) hb); have n2_ := Aside0.mk (hbox); have n3_ := Aside0.mk ((by rw [hg]; exact (below_size (bl HB.out)) : w.heap.size ≤ gb162)); have n4_ := Aside0.mk ((by rw [hg]; exact (below_size (bl HB.out)) : w.heap.size ≤ gb162)); clear HO_6; clear HB; have HO_6 := n0_; have HB := n1_; have BK162 := n2_; have GW162 := n3_; have GE162 := n4_; clear n0_ n1_ n2_ n3_ n4_; clear hb hbox hg; have hcz17_0 : w16.cell? ⟨gb162, 0, none⟩ = some (.int .i64 0) := (blk_cell BK162.out 0).trans rfl; have hcz17_1 : w16.cell? ⟨gb162, 1, none⟩ = some (.int .i64 0) := (blk_cell BK162.out 1).trans rfl; have hcz17_2 : w16.cell? ⟨gb162, 2, none⟩ = some (.int .i64 0) := (blk_cell BK162.out 2).trans rfl; have hfz17_0 := blk_frozen BK162.out 0; have hfz17_1 := blk_frozen BK162.out 1; have hfz17_2 := blk_frozen BK162.out 2))
          go_ret2
          exact ⟨_, by first | rfl | (simp [errW_none, errW_some] <;> rfl) | (simp only [← hji14]; first | rfl | (simp [errW_none, errW_some] <;> rfl)) | (simp [*, errW_none, errW_some] <;> rfl), by first | exact Kd.R_nil _ _ _ _ _ | exact Kd.N_nil _ _ _ _ _ | exact Kd.V_nil _ _ _ _ _ | exact Kd.Q_nil _ _ _ _ _ | exact Kd.S_nil _ _ _ _ _, by repeat (first | (with_reducible first | exact HB.out | apply below_alloc | apply pw_below_drewN | apply below_drew1 | refine below_set ?_ GE162.out) | exact HB.out)⟩
         ·rw [if_neg c15] at H
          have c15b0 : decide ((ji14) < (-1)) = false := decide_eq_false c15
          clear c15
          obtain ⟨ji18, hji18⟩ : ∃ j_ : Int, (mx ((rd_T55 l1 x23_2).f0) ((rd_T55 l1 x23_2).f1)) = j_ := ⟨_, rfl⟩
          replace H : (if (ji18) ≥ a0 then (some (([] : List (S78)), 1)) else (if ((rd_T55 l1 x23_2).f0) = ((rd_T55 l1 x23_2).f1) then (some (([] : List (S78)), 1)) else (if ((rd_T55 l1 x23_2).f2) < (-2097152) then (some (([] : List (S78)), 1)) else (if ((rd_T55 l1 x23_2).f2) > 2097152 then (some (([] : List (S78)), 1)) else (if (wrap64 (a0 + 1)) = 0 then (none) else (if x23_2 < (x6_2.length : Int) then (bounds_edges.l0 k2 a0 (x6_2.set (x23_2 : Int).toNat (⟨Int.tmod (wrap64 ((wrap64 (((rd_T55 l1 x23_2).f0) + a0)) + 1)) (wrap64 (a0 + 1)), Int.tmod (wrap64 ((wrap64 (((rd_T55 l1 x23_2).f1) + a0)) + 1)) (wrap64 (a0 + 1)), (rd_T55 l1 x23_2).f2⟩ : S78)) l1 (l1.length : Int) (wrap64 (x23_2 + 1))) else (none))))))) = some (r1, r2) := by first | (rw [hji18] at H; exact H) | (simp only [hji18] at H ⊢; exact H)
          have hji18_ : (if ((rd_T55 l1 x23_2).f0) < ((rd_T55 l1 x23_2).f1) then ((rd_T55 l1 x23_2).f1) else ((rd_T55 l1 x23_2).f0)) = ji18 := hji18
          by_cases c19 : (ji18) ≥ a0
          ·rw [if_pos c19] at H
           have c19b0 : decide (a0 ≤ (ji18)) = true := decide_eq_true c19
           clear c19
           simp only [Option.some.injEq, Prod.mk.injEq] at H
           obtain ⟨rfl, rfl⟩ := H
           have p161 : 0 ≤ (x23_2 : Int) := of_decide_eq_true (by assumption)
           have q161 : x23_2 < (l1.length : Int) := of_decide_eq_true (by assumption)
           obtain ⟨ad161, e161, hx161_0, hx161_1, hx161_2⟩ := at_T55 HR1.out x23_2 p161 q161
           cases e161
           replace hx161_0 := (HB.out.cell (World.block_lt_of_cell? w _ hx161_0)).trans hx161_0
           replace hx161_1 := (HB.out.cell (World.block_lt_of_cell? w _ hx161_1)).trans hx161_1
           replace hx161_2 := (HB.out.cell (World.block_lt_of_cell? w _ hx161_2)).trans hx161_2
           replace p161 := eq_true p161
           replace q161 := eq_true q161
           go_wp2_with (first | ((with_reducible refine gate_dst (N := 8) rfl ?_); (try (refine gate_guard (by rfl) ?_; dsimp only)); refine box_event ?hg (N := 8) ?hd (cs := #[.int .i64 0, .int .i64 0, .int .i64 0]) (t := 55) ?hr ?_; (case hd => rfl); (case hg => rfl); (case hr => first | (go_simp; done) | (go_simp; rfl)); intro gb162 hg w20 hbox hb; have n0_ := Aside0.mk (Kd.R_below (gR (HO_6.out)) hb); have n1_ := Aside0.mk (below_step (bl HB.out) hb); have n2_ := Aside0.mk (hbox); have n3_ := Aside0.mk ((by rw [hg]; exact (below_size (bl HB.out)) : w.heap.size ≤ gb162)); have n4_ := Aside0.mk ((by rw [hg]; exact (below_size (bl HB.out)) : w.heap.size ≤ gb162)); clear HO_6; clear HB; have HO_6 := n0_; have HB := n1_; have BK162 := n2_; have GW162 := n3_; have GE162 := n4_; clear n0_ n1_ n2_ n3_ n4_; clear hb hbox hg; have hcz21_0 : w20.cell? ⟨gb162, 0, none⟩ = some (.int .i64 0) := (blk_cell BK162.out 0).trans rfl; have hcz21_1 : w20.cell? ⟨gb162, 1, none⟩ = some (.int .i64 0) := (blk_cell BK162.out 1).trans rfl; have hcz21_2 : w20.cell? ⟨gb162, 2, none⟩ = some (.int .i64 0) := (blk_cell BK162.out 2).trans rfl; have hfz21_0 := blk_frozen BK162.out 0; have hfz21_1 := blk_frozen BK162.out 1; have hfz21_2 := blk_frozen BK162.out 2))
           go_ret2
           exact ⟨_, by first | rfl | (simp [errW_none, errW_some] <;> rfl) | (simp only [← hji14, ← hji18]; first | rfl | (simp [errW_none, errW_some] <;> rfl)) | (simp [*, errW_none, errW_some] <;> rfl), by first | exact Kd.R_nil _ _ _ _ _ | exact Kd.N_nil _ _ _ _ _ | exact Kd.V_nil _ _ _ _ _ | exact Kd.Q_nil _ _ _ _ _ | exact Kd.S_nil _ _ _ _ _, by repeat (first | (with_reducible first | exact HB.out | apply below_alloc | apply pw_below_drewN | apply below_drew1 | refine below_set ?_ GE162.out) | exact HB.out)⟩
          ·rw [if_neg c19] at H
           have c19b0 : decide (a0 ≤ (ji18)) = false := decide_eq_false c19
           clear c19
           by_cases c22 : ((rd_T55 l1 x23_2).f0) = ((rd_T55 l1 x23_2).f1)
           ·rw [if_pos c22] at H
            have c22b0 : (((rd_T55 l1 x23_2).f0) == ((rd_T55 l1 x23_2).f1)) = true := beq_iff_eq.mpr c22
            have c22b1 : (((rd_T55 l1 x23_2).f0) != ((rd_T55 l1 x23_2).f1)) = false := bne_eq_false_iff_eq.mpr c22
            clear c22
            simp only [Option.some.injEq, Prod.mk.injEq] at H
            obtain ⟨rfl, rfl⟩ := H
            have p161 : 0 ≤ (x23_2 : Int) := of_decide_eq_true (by assumption)
            have q161 : x23_2 < (l1.length : Int) := of_decide_eq_true (by assumption)
            obtain ⟨ad161, e161, hx161_0, hx161_1, hx161_2⟩ := at_T55 HR1.out x23_2 p161 q161
            cases e161
            replace hx161_0 := (HB.out.cell (World.block_lt_of_cell? w _ hx161_0)).trans hx161_0
            replace hx161_1 := (HB.out.cell (World.block_lt_of_cell? w _ hx161_1)).trans hx161_1
            replace hx161_2 := (HB.out.cell (World.block_lt_of_cell? w _ hx161_2)).trans hx161_2
            replace p161 := eq_true p161
            replace q161 := eq_true q161
            go_wp2_with (first | ((with_reducible refine gate_dst (N := 8) rfl ?_); (try (refine gate_guard (by rfl) ?_; dsimp only)); refine box_event ?hg (N := 8) ?hd (cs := #[.int .i64 0, .int .i64 0, .int .i64 0]) (t := 55) ?hr ?_; (case hd => rfl); (case hg => rfl); (case hr => first | (go_simp; done) | (go_simp; rfl)); intro gb162 hg w23 hbox hb; have n0_ := Aside0.mk (Kd.R_below (gR (HO_6.out)) hb); have n1_ := Aside0.mk (below_step (bl HB.out) hb); have n2_ := Aside0.mk (hbox); have n3_ := Aside0.mk ((by rw [hg]; exact (below_size (bl HB.out)) : w.heap.size ≤ gb162)); have n4_ := Aside0.mk ((by rw [hg]; exact (below_size (bl HB.out)) : w.heap.size ≤ gb162)); clear HO_6; clear HB; have HO_6 := n0_; have HB := n1_; have BK162 := n2_; have GW162 := n3_; have GE162 := n4_; clear n0_ n1_ n2_ n3_ n4_; clear hb hbox hg; have hcz24_0 : w23.cell? ⟨gb162, 0, none⟩ = some (.int .i64 0) := (blk_cell BK162.out 0).trans rfl; have hcz24_1 : w23.cell? ⟨gb162, 1, none⟩ = some (.int .i64 0) := (blk_cell BK162.out 1).trans rfl; have hcz24_2 : w23.cell? ⟨gb162, 2, none⟩ = some (.int .i64 0) := (blk_cell BK162.out 2).trans rfl; have hfz24_0 := blk_frozen BK162.out 0; have hfz24_1 := blk_frozen BK162.out 1; have hfz24_2 := blk_frozen BK162.out 2))
            go_ret2
            exact ⟨_, by first | rfl | (simp [errW_none, errW_some] <;> rfl) | (simp only [← hji14, ← hji18]; first | rfl | (simp [errW_none, errW_some] <;> rfl)) | (simp [*, errW_none, errW_some] <;> rfl), by first | exact Kd.R_nil _ _ _ _ _ | exact Kd.N_nil _ _ _ _ _ | exact Kd.V_nil _ _ _ _ _ | exact Kd.Q_nil _ _ _ _ _ | exact Kd.S_nil _ _ _ _ _, by repeat (first | (with_reducible first | exact HB.out | apply below_alloc | apply pw_below_drewN | apply below_drew1 | refine below_set ?_ GE162.out) | exact HB.out)⟩
           ·rw [if_neg c22] at H
            have c22b0 : (((rd_T55 l1 x23_2).f0) == ((rd_T55 l1 x23_2).f1)) = false := beq_eq_false_iff_ne.mpr c22
            have c22b1 : (((rd_T55 l1 x23_2).f0) != ((rd_T55 l1 x23_2).f1)) = true := bne_iff_ne.mpr c22
            by_cases c25 : ((rd_T55 l1 x23_2).f2) < (-2097152)
            ·rw [if_pos c25] at H
             have c25b0 : decide (((rd_T55 l1 x23_2).f2) < (-2097152)) = true := decide_eq_true c25
             clear c25
             simp only [Option.some.injEq, Prod.mk.injEq] at H
             obtain ⟨rfl, rfl⟩ := H
             have p161 : 0 ≤ (x23_2 : Int) := of_decide_eq_true (by assumption)
             have q161 : x23_2 < (l1.length : Int) := of_decide_eq_true (by assumption)
             obtain ⟨ad161, e161, hx161_0, hx161_1, hx161_2⟩ := at_T55 HR1.out x23_2 p161 q161
             cases e161
             replace hx161_0 := (HB.out.cell (World.block_lt_of_cell? w _ hx161_0)).trans hx161_0
             replace hx161_1 := (HB.out.cell (World.block_lt_of_cell? w _ hx161_1)).trans hx161_1
             replace hx161_2 := (HB.out.cell (World.block_lt_of_cell? w _ hx161_2)).trans hx161_2
             replace p161 := eq_true p161
             replace q161 := eq_true q161
             go_wp2_with (first | ((with_reducible refine gate_dst (N := 8) rfl ?_); (try (refine gate_guard (by rfl) ?_; dsimp only)); refine box_event ?hg (N := 8) ?hd (cs := #[.int .i64 0, .int .i64 0, .int .i64 0]) (t := 55) ?hr ?_; (case hd => rfl); (case hg => rfl); (case hr => first | (go_simp; done) | (go_simp; rfl)); intro gb162 hg w26 hbox hb; have n0_ := Aside0.mk (Kd.R_below (gR (HO_6.out)) hb); have n1_ := Aside0.mk (below_step (bl HB.out) hb); have n2_ := Aside0.mk (hbox); have n3_ := Aside0.mk ((by rw [hg]; exact (below_size (bl HB.out)) : w.heap.size ≤ gb162)); have n4_ := Aside0.mk ((by rw [hg]; exact (below_size (bl HB.out)) : w.heap.size ≤ gb162)); clear HO_6; clear HB; have HO_6 := n0_; have HB := n1_; have BK162 := n2_; have GW162 := n3_; have GE162 := n4_; clear n0_ n1_ n2_ n3_ n4_; clear hb hbox hg; have hcz27_0 : w26.cell? ⟨gb162, 0, none⟩ = some (.int .i64 0) := (blk_cell BK162.out 0).trans rfl; have hcz27_1 : w26.cell? ⟨gb162, 1, none⟩ = some (.int .i64 0) := (blk_cell BK162.out 1).trans rfl; have hcz27_2 : w26.cell? ⟨gb162, 2, none⟩ = some (.int .i64 0) := (blk_cell BK162.out 2).trans rfl; have hfz27_0 := blk_frozen BK162.out 0; have hfz27_1 := blk_frozen BK162.out 1; have hfz27_2 := blk_frozen BK162.out 2))
             go_ret2
             exact ⟨_, by first | rfl | (simp [errW_none, errW_some] <;> rfl) | (simp only [← hji14, ← hji18]; first | rfl | (simp [errW_none, errW_some] <;> rfl)) | (simp [*, errW_none, errW_some] <;> rfl), by first | exact Kd.R_nil _ _ _ _ _ | exact Kd.N_nil _ _ _ _ _ | exact Kd.V_nil _ _ _ _ _ | exact Kd.Q_nil _ _ _ _ _ | exact Kd.S_nil _ _ _ _ _, by repeat (first | (with_reducible first | exact HB.out | apply below_alloc | apply pw_below_drewN | apply below_drew1 | refine below_set ?_ GE162.out) | exact HB.out)⟩
            ·rw [if_neg c25] at H
             have c25b0 : decide (((rd_T55 l1 x23_2).f2) < (-2097152)) = false := decide_eq_false c25
             clear c25
             by_cases c28 : ((rd_T55 l1 x23_2).f2) > 2097152
             ·rw [if_pos c28] at H
              have c28b0 : decide (2097152 < ((rd_T55 l1 x23_2).f2)) = true := decide_eq_true c28
              clear c28
              simp only [Option.some.injEq, Prod.mk.injEq] at H
              obtain ⟨rfl, rfl⟩ := H
              have p161 : 0 ≤ (x23_2 : Int) := of_decide_eq_true (by assumption)
              have q161 : x23_2 < (l1.length : Int) := of_decide_eq_true (by assumption)
              obtain ⟨ad161, e161, hx161_0, hx161_1, hx161_2⟩ := at_T55 HR1.out x23_2 p161 q161
              cases e161
              replace hx161_0 := (HB.out.cell (World.block_lt_of_cell? w _ hx161_0)).trans hx161_0
              replace hx161_1 := (HB.out.cell (World.block_lt_of_cell? w _ hx161_1)).trans hx161_1
              replace hx161_2 := (HB.out.cell (World.block_lt_of_cell? w _ hx161_2)).trans hx161_2
              replace p161 := eq_true p161
              replace q161 := eq_true q161
              go_wp2_with (first | ((with_reducible refine gate_dst (N := 8) rfl ?_); (try (refine gate_guard (by rfl) ?_; dsimp only)); refine box_event ?hg (N := 8) ?hd (cs := #[.int .i64 0, .int .i64 0, .int .i64 0]) (t := 55) ?hr ?_; (case hd => rfl); (case hg => rfl); (case hr => first | (go_simp; done) | (go_simp; rfl)); intro gb162 hg w29 hbox hb; have n0_ := Aside0.mk (Kd.R_below (gR (HO_6.out)) hb); have n1_ := Aside0.mk (below_step (bl HB.out) hb); have n2_ := Aside0.mk (hbox); have n3_ := Aside0.mk ((by rw [hg]; exact (below_size (bl HB.out)) : w.heap.size ≤ gb162)); have n4_ := Aside0.mk ((by rw [hg]; exact (below_size (bl HB.out)) : w.heap.size ≤ gb162)); clear HO_6; clear HB; have HO_6 := n0_; have HB := n1_; have BK162 := n2_; have GW162 := n3_; have GE162 := n4_; clear n0_ n1_ n2_ n3_ n4_; clear hb hbox hg; have hcz30_0 : w29.cell? ⟨gb162, 0, none⟩ = some (.int .i64 0) := (blk_cell BK162.out 0).trans rfl; have hcz30_1 : w29.cell? ⟨gb162, 1, none⟩ = some (.int .i64 0) := (blk_cell BK162.out 1).trans rfl; have hcz30_2 : w29.cell? ⟨gb162, 2, none⟩ = some (.int .i64 0) := (blk_cell BK162.out 2).trans rfl; have hfz30_0 := blk_frozen BK162.out 0; have hfz30_1 := blk_frozen BK162.out 1; have hfz30_2 := blk_frozen BK162.out 2))
              go_ret2
              exact ⟨_, by first | rfl | (simp [errW_none, errW_some] <;> rfl) | (simp only [← hji14, ← hji18]; first | rfl | (simp [errW_none, errW_some] <;> rfl)) | (simp [*, errW_none, errW_some] <;> rfl), by first | exact Kd.R_nil _ _ _ _ _ | exact Kd.N_nil _ _ _ _ _ | exact Kd.V_nil _ _ _ _ _ | exact Kd.Q_nil _ _ _ _ _ | exact Kd.S_nil _ _ _ _ _, by repeat (first | (with_reducible first | exact HB.out | apply below_alloc | apply pw_below_drewN | apply below_drew1 | refine below_set ?_ GE162.out) | exact HB.out)⟩
             ·rw [if_neg c28] at H
              have c28b0 : decide (2097152 < ((rd_T55 l1 x23_2).f2)) = false := decide_eq_false c28
              clear c28
              by_cases c31 : (wrap64 (a0 + 1)) = 0
              ·rw [if_pos c31] at H
               exact absurd H (by simp)
              ·rw [if_neg c31] at H
               have c31b0 : ((wrap64 (a0 + 1)) == 0) = false := beq_eq_false_iff_ne.mpr c31
               have c31b1 : ((wrap64 (a0 + 1)) != 0) = true := bne_iff_ne.mpr c31
               by_cases c32 : x23_2 < (x6_2.length : Int)
               case neg => rw [if_neg c32] at H; exact absurd H (by simp)
               rw [if_pos c32] at H
               have c32b0 : decide (x23_2 < (x6_2.length : Int)) = true := decide_eq_true c32
               clear c32
               obtain ⟨y163, hy163⟩ : ∃ y_ : List (S78), y_ = (x6_2.set (x23_2 : Int).toNat (⟨Int.tmod (wrap64 ((wrap64 (((rd_T55 l1 x23_2).f0) + a0)) + 1)) (wrap64 (a0 + 1)), Int.tmod (wrap64 ((wrap64 (((rd_T55 l1 x23_2).f1) + a0)) + 1)) (wrap64 (a0 + 1)), (rd_T55 l1 x23_2).f2⟩ : S78)) := ⟨_, rfl⟩
               replace H : (bounds_edges.l0 k2 a0 y163 l1 (l1.length : Int) (wrap64 (x23_2 + 1))) = some (r1, r2) := by first | (rw [hy163]; with_reducible exact H) | (have H2_ := (Option.bind_some _ _).symm.trans H; rw [hy163]; with_reducible exact H2_) | (have H2_ := (Option.bind_some _ _).symm.trans H; with_reducible exact H2_) | with_reducible exact H | (rw [hy163]; exact H) | exact H
               have Ny163 := Aside0.mk hy163
               clear hy163
               have H' := Aside0.mk H
               clear H
               have p161 : 0 ≤ (x23_2 : Int) := of_decide_eq_true (by assumption)
               have q161 : x23_2 < (l1.length : Int) := of_decide_eq_true (by assumption)
               obtain ⟨ad161, e161, hx161_0, hx161_1, hx161_2⟩ := at_T55 HR1.out x23_2 p161 q161
               cases e161
               replace hx161_0 := (HB.out.cell (World.block_lt_of_cell? w _ hx161_0)).trans hx161_0
               replace hx161_1 := (HB.out.cell (World.block_lt_of_cell? w _ hx161_1)).trans hx161_1
               replace hx161_2 := (HB.out.cell (World.block_lt_of_cell? w _ hx161_2)).trans hx161_2
               replace p161 := eq_true p161
               replace q161 := eq_true q161
               try go_wp2_with (first | ((with_reducible refine gate_dst (N := 8) rfl ?_); (try (refine gate_guard (by rfl) ?_; dsimp only)); refine box_event ?hg (N := 8) ?hd (cs := #[.int .i64 0, .int .i64 0, .int .i64 0]) (t := 55) ?hr ?_; (case hd => rfl); (case hg => rfl); (case hr => first | (go_simp; done) | (go_simp; rfl)); intro gb162 hg w34 hbox hb; have n0_ := Aside0.mk (Kd.R_below (gR (HO_6.out)) hb); have n1_ := Aside0.mk (below_step (bl HB.out) hb); have n2_ := Aside0.mk (hbox); have n3_ := Aside0.mk ((by rw [hg]; exact (below_size (bl HB.out)) : w.heap.size ≤ gb162)); have n4_ := Aside0.mk ((by rw [hg]; exact (below_size (bl HB.out)) : w.heap.size ≤ gb162)); clear HO_6; clear HB; have HO_6 := n0_; have HB := n1_; have BK162 := n2_; have GW162 := n3_; have GE162 := n4_; clear n0_ n1_ n2_ n3_ n4_; clear hb hbox hg; have hcz35_0 : w34.cell? ⟨gb162, 0, none⟩ = some (.int .i64 0) := (blk_cell BK162.out 0).trans rfl; have hcz35_1 : w34.cell? ⟨gb162, 1, none⟩ = some (.int .i64 0) := (blk_cell BK162.out 1).trans rfl; have hcz35_2 : w34.cell? ⟨gb162, 2, none⟩ = some (.int .i64 0) := (blk_cell BK162.out 2).trans rfl; have hfz35_0 := blk_frozen BK162.out 0; have hfz35_1 := blk_frozen BK162.out 1; have hfz35_2 := blk_frozen BK162.out 2))
               have n0_ : Aside0 (Kd.R k78 78 (((w34.setCell ⟨gb162, 0, none⟩ (.int .i64 ((rd_T55 l1 x23_2).f0))).setCell ⟨gb162, 1, none⟩ (.int .i64 ((rd_T55 l1 x23_2).f1))).setCell ⟨gb162, 2, none⟩ (.int .i64 ((rd_T55 l1 x23_2).f2))) w.heap.size (fun _ => True) v159 x6_2) := ⟨gR (Kd.R_mono (Kd.R_far (p := ⟨gb162, 2, none⟩) (Kd.R_far (p := ⟨gb162, 1, none⟩) (Kd.R_far (p := ⟨gb162, 0, none⟩) (Kd.R_types HO_6.out BK162.out (by decide)) (fun _ hk => hk.2) (.int .i64 ((rd_T55 l1 x23_2).f0))) (fun _ hk => hk.2) (.int .i64 ((rd_T55 l1 x23_2).f1))) (fun _ hk => hk.2) (.int .i64 ((rd_T55 l1 x23_2).f2))) (fun _ hk => trivial))⟩
               have n1_ : Aside0 ((((w34.setCell ⟨gb162, 0, none⟩ (.int .i64 ((rd_T55 l1 x23_2).f0))).setCell ⟨gb162, 1, none⟩ (.int .i64 ((rd_T55 l1 x23_2).f1))).setCell ⟨gb162, 2, none⟩ (.int .i64 ((rd_T55 l1 x23_2).f2))).heap[gb162]? = some (.cells #[.int .i64 ((rd_T55 l1 x23_2).f0), .int .i64 ((rd_T55 l1 x23_2).f1), .int .i64 ((rd_T55 l1 x23_2).f2)] 55 (0, 0))) := ⟨by (with_reducible repeat (first | refine blk_drewN ?_ _ | refine blk_drew ?_ | refine blk_alloc ?_ _)); refine blk_put (cs := #[.int .i64 ((rd_T55 l1 x23_2).f0), .int .i64 ((rd_T55 l1 x23_2).f1), .int .i64 0]) ?_ 2 _ rfl; (with_reducible repeat (first | refine blk_drewN ?_ _ | refine blk_drew ?_ | refine blk_alloc ?_ _)); refine blk_put (cs := #[.int .i64 ((rd_T55 l1 x23_2).f0), .int .i64 0, .int .i64 0]) ?_ 1 _ rfl; (with_reducible repeat (first | refine blk_drewN ?_ _ | refine blk_drew ?_ | refine blk_alloc ?_ _)); refine blk_put (cs := #[.int .i64 0, .int .i64 0, .int .i64 0]) ?_ 0 _ rfl; (with_reducible repeat (first | refine blk_drewN ?_ _ | refine blk_drew ?_ | refine blk_alloc ?_ _)); exact BK162.out⟩
               have n2_ : Aside0 (Below w.heap.size w (((w34.setCell ⟨gb162, 0, none⟩ (.int .i64 ((rd_T55 l1 x23_2).f0))).setCell ⟨gb162, 1, none⟩ (.int .i64 ((rd_T55 l1 x23_2).f1))).setCell ⟨gb162, 2, none⟩ (.int .i64 ((rd_T55 l1 x23_2).f2)))) := ⟨by repeat (first | (with_reducible first | exact HB.out | apply below_alloc | apply pw_below_drewN | apply below_drew1 | refine below_set ?_ GE162.out) | exact HB.out)⟩
               (try clear HO_6)
               (try clear BK162)
               (try clear HB)
               generalize (((w34.setCell ⟨gb162, 0, none⟩ (.int .i64 ((rd_T55 l1 x23_2).f0))).setCell ⟨gb162, 1, none⟩ (.int .i64 ((rd_T55 l1 x23_2).f1))).setCell ⟨gb162, 2, none⟩ (.int .i64 ((rd_T55 l1 x23_2).f2))) = w36 at n0_ n1_ n2_ ⊢
               have HO_6 := n0_
               have BK162 := n1_
               have HB := n2_
               clear n0_ n1_ n2_
               have n0_ := Aside0.mk (Kd.R_drew HO_6.out)
               have n1_ := Aside0.mk (blk_drew BK162.out)
               have n2_ := Aside0.mk (below_drew1 HB.out)
               clear HO_6
               clear BK162
               clear HB
               have HO_6 := n0_
               have BK162 := n1_
               have HB := n2_
               clear n0_ n1_ n2_
               have p33 : 0 ≤ (x23_2 : Int) := of_decide_eq_true (by assumption)
               have q33 : (x23_2 : Int) < ((x6_2.length : Int) : Int) := of_decide_eq_true (by assumption)
               obtain ⟨go33, co33, eo33, gb33, gl33, cl33, HG33⟩ := Kd.R_form HO_6.out (by omega)
               (first | cases eo33 | (injection eo33 with ea_ en_ ec_; (first | subst ea_ | (injection ea_ with ea_; subst ea_)); subst ec_; clear en_))
               have GB33 := Aside0.mk gb33
               have GG33 := Aside0.mk HG33
               clear gb33 gl33 HG33
               obtain ⟨ce33, hcl33, hM33, hcc33, hfr33⟩ := Kd.R_elem HO_6.out z78 (x23_2 : Int) p33 q33
               obtain rfl := k78_openM hM33
               have hx33_0 : World.cell? _ ⟨go33, (x23_2 : Int).toNat * 3, none⟩ = some (.int .i64 ((rd_T78 x6_2 x23_2).f0)) := hcc33 0 _ rfl
               have hx33_1 : World.cell? _ ⟨go33, (x23_2 : Int).toNat * 3 + 1, none⟩ = some (.int .i64 ((rd_T78 x6_2 x23_2).f1)) := hcc33 1 _ rfl
               have hx33_2 : World.cell? _ ⟨go33, (x23_2 : Int).toNat * 3 + 2, none⟩ = some (.int .i64 ((rd_T78 x6_2 x23_2).f2)) := hcc33 2 _ rfl
               have hf33_0 : World.frozen? _ ⟨go33, (x23_2 : Int).toNat * 3, none⟩ = false := hfr33 0
               have hf33_1 : World.frozen? _ ⟨go33, (x23_2 : Int).toNat * 3 + 1, none⟩ = false := hfr33 1
               have hf33_2 : World.frozen? _ ⟨go33, (x23_2 : Int).toNat * 3 + 2, none⟩ = false := hfr33 2
               clear hcl33 hcc33 hfr33 hM33
               replace p33 := eq_true p33
               replace q33 := eq_true q33
               obtain ⟨ce38, hcl38, hM38, hcc38, hfr38⟩ := Kd.R_elem HO_6.out z78 (x23_2 : Int) (of_decide_eq_true (by assumption)) (by have h_ : (x23_2 : Int) < ((x6_2.length : Int) : Int) := of_decide_eq_true (by assumption); first | exact h_ | (have e_ := (Kd.R_reads' HO_6.out).1; omega) | simpa using h_)
               obtain rfl := k78_openM hM38
               have HP38 := (Kd.R_seg HO_6.out (x23_2 : Int) (of_decide_eq_true (by assumption)) (by have h_ : (x23_2 : Int) < ((x6_2.length : Int) : Int) := of_decide_eq_true (by assumption); first | exact h_ | (have e_ := (Kd.R_reads' HO_6.out).1; omega) | simpa using h_) (seg := [.int .i64 (Int.tmod (wrap64 ((wrap64 (((rd_T55 l1 x23_2).f0) + a0)) + 1)) (wrap64 (a0 + 1))), .int .i64 (Int.tmod (wrap64 ((wrap64 (((rd_T55 l1 x23_2).f1) + a0)) + 1)) (wrap64 (a0 + 1))), .int .i64 ((rd_T55 l1 x23_2).f2)]) (j := 0) hcl38 hcc38 (show 3 ≤ 3 from by decide) (x' := (⟨Int.tmod (wrap64 ((wrap64 (((rd_T55 l1 x23_2).f0) + a0)) + 1)) (wrap64 (a0 + 1)), Int.tmod (wrap64 ((wrap64 (((rd_T55 l1 x23_2).f1) + a0)) + 1)) (wrap64 (a0 + 1)), (rd_T55 l1 x23_2).f2⟩ : S78)) (k78_mkM _ _ _ (⟨Int.tmod (wrap64 ((wrap64 (((rd_T55 l1 x23_2).f0) + a0)) + 1)) (wrap64 (a0 + 1)), Int.tmod (wrap64 ((wrap64 (((rd_T55 l1 x23_2).f1) + a0)) + 1)) (wrap64 (a0 + 1)), (rd_T55 l1 x23_2).f2⟩ : S78) ) (fun _ hk => hk)).1
               rw [← Ny163.out] at HP38
               have HQ38 := Aside0.mk HP38
               clear hcl38 hcc38 hfr38 hM38 HP38
               refine start_ (n := 23) (S := fun w' => w'.cell? ⟨gb162, 0, none⟩ = some (.int .i64 ((rd_T55 l1 x23_2).f0)) ∧ w'.cell? ⟨gb162, 1, none⟩ = some (.int .i64 ((rd_T55 l1 x23_2).f1)) ∧ w'.cell? ⟨gb162, 2, none⟩ = some (.int .i64 ((rd_T55 l1 x23_2).f2))) (ds := [22]) #[false, false, false, false, false, false, false, false, false, false, false, false, false, false, false, false, false, false, false, false, false, false, false] (by kernel_rfl) rfl rfl ⟨(blk_cell BK162.out 0).trans rfl, (blk_cell BK162.out 1).trans rfl, (blk_cell BK162.out 2).trans rfl⟩ (fun hHeld => ?_); refine with_tabW bounds_edges.tab11 bounds_edges.bits11 (fun HT_ HW_ => ?_)
               generalize w36.drew = w37 at HO_6 BK162 HB GG33 HQ38 hf33_0 hf33_1 hf33_2 hx33_0 hx33_1 hx33_2 hHeld ⊢
               refine pS_ 0 (some 60) rfl rfl HT_.out (by kernel_rfl) ?_ (fun _ _ _ h => h) (by rfl) ?_ ?_ ?_ ?_
               rotate_left
               ·intro w'
                go_simp
                with_reducible rfl
               rotate_left
               ·simp only [Act.put, List.setIfInBounds_toArray, List.set_cons_zero, List.set_cons_succ, i64_w, i32_w]
                rfl
               refine pS_ 1 (some 61) rfl rfl HT_.out (by kernel_rfl) ?_ (fun _ _ _ h => h) (by rfl) ?_ ?_ ?_ ?_
               rotate_left
               ·intro w'
                go_simp
                with_reducible rfl
               rotate_left
               ·simp only [Act.put, List.setIfInBounds_toArray, List.set_cons_zero, List.set_cons_succ, i64_w, i32_w]
                rfl
               refine pS_ 2 (some 62) rfl rfl HT_.out (by kernel_rfl) ?_ (fun _ _ _ h => h) (by rfl) ?_ ?_ ?_ ?_
               rotate_left
               ·intro w'
                go_simp
                with_reducible rfl
               rotate_left
               ·simp only [Act.put, List.setIfInBounds_toArray, List.set_cons_zero, List.set_cons_succ, i64_w, i32_w]
                rfl
               refine pS_ 4 (some 64) rfl rfl HT_.out (by kernel_rfl) ?_ (fun _ _ _ h => h) (by rfl) ?_ ?_ ?_ ?_
               rotate_left
               ·intro w'
                go_simp
                with_reducible rfl
               rotate_left
               ·simp only [Act.put, List.setIfInBounds_toArray, List.set_cons_zero, List.set_cons_succ, i64_w, i32_w]
                rfl
               refine pS_ 7 (some 67) rfl rfl HT_.out (by kernel_rfl) ?_ (fun _ _ _ h => h) (by rfl) ?_ ?_ ?_ ?_
               rotate_left
               ·intro w'
                go_simp
                with_reducible rfl
               rotate_left
               ·simp only [Act.put, List.setIfInBounds_toArray, List.set_cons_zero, List.set_cons_succ, i64_w, i32_w]
                rfl
               refine pS_ 8 (some 68) rfl rfl HT_.out (by kernel_rfl) ?_ (fun _ _ _ h => h) (by rfl) ?_ ?_ ?_ ?_
               rotate_left
               ·intro w'
                go_simp
                with_reducible rfl
               rotate_left
               ·simp only [Act.put, List.setIfInBounds_toArray, List.set_cons_zero, List.set_cons_succ, i64_w, i32_w]
                rfl
               refine pS_ 10 (some 70) rfl rfl HT_.out (by kernel_rfl) ?_ (fun _ _ _ h => h) (by rfl) ?_ ?_ ?_ ?_
               rotate_left
               ·intro w'
                go_simp
                with_reducible rfl
               rotate_left
               ·simp only [Act.put, List.setIfInBounds_toArray, List.set_cons_zero, List.set_cons_succ, i64_w, i32_w]
                rfl
               refine pS_ 12 (some 72) rfl rfl HT_.out (by kernel_rfl) ?_ (fun _ _ _ h => h) (by rfl) ?_ ?_ ?_ ?_
               rotate_left
               ·intro w'
                go_simp
                with_reducible rfl
               rotate_left
               ·simp only [Act.put, List.setIfInBounds_toArray, List.set_cons_zero, List.set_cons_succ, i64_w, i32_w]
                rfl
               refine pS_ 15 (some 75) rfl rfl HT_.out (by kernel_rfl) ?_ (fun _ _ _ h => h) (by rfl) ?_ ?_ ?_ ?_
               rotate_left
               ·intro w'
                go_simp
                with_reducible rfl
               rotate_left
               ·simp only [Act.put, List.setIfInBounds_toArray, List.set_cons_zero, List.set_cons_succ, i64_w, i32_w]
                rfl
               refine pS_ 16 (some 76) rfl rfl HT_.out (by kernel_rfl) ?_ (fun _ _ _ h => h) (by rfl) ?_ ?_ ?_ ?_
               rotate_left
               ·intro w'
                go_simp
                with_reducible rfl
               rotate_left
               ·simp only [Act.put, List.setIfInBounds_toArray, List.set_cons_zero, List.set_cons_succ, i64_w, i32_w]
                rfl
               refine pS_ 18 (some 78) rfl rfl HT_.out (by kernel_rfl) ?_ (fun _ _ _ h => h) (by rfl) ?_ ?_ ?_ ?_
               rotate_left
               ·intro w'
                go_simp
                with_reducible rfl
               rotate_left
               ·simp only [Act.put, List.setIfInBounds_toArray, List.set_cons_zero, List.set_cons_succ, i64_w, i32_w]
                rfl
               refine take_ (i := 3) (N := some 63) (v := ?_) (a' := ?_) #[true, true, true, true, true, false, false, true, true, false, true, false, true, false, false, true, true, false, true, false, false, false, false] rfl rfl (take_ofW HT_.out HW_.out (by kernel_rfl)) (fun _ _ _ h => h) (Or.inl ⟨by rfl, ?_⟩) hHeld ?_ ?_
               rotate_left
               ·rintro w' ⟨s0, s1, s2⟩
                go_simp
                with_reducible rfl
               rotate_left
               ·simp only [Act.put, List.setIfInBounds_toArray, List.set_cons_zero, List.set_cons_succ, i64_w, i32_w]
                rfl
               refine pS_ 5 (some 65) rfl rfl HT_.out (by kernel_rfl) ?_ (fun _ _ _ h => h) (by rfl) ?_ ?_ ?_ ?_
               rotate_left
               ·intro w'
                go_simp
                with_reducible rfl
               rotate_left
               ·simp only [Act.put, List.setIfInBounds_toArray, List.set_cons_zero, List.set_cons_succ, i64_w, i32_w]
                rfl
               refine pS_ 6 (some 66) rfl rfl HT_.out (by kernel_rfl) ?_ (fun _ _ _ h => h) (by rfl) ?_ ?_ ?_ ?_
               rotate_left
               ·intro w'
                go_simp
                with_reducible rfl
               rotate_left
               ·simp only [Act.put, List.setIfInBounds_toArray, List.set_cons_zero, List.set_cons_succ, i64_w, i32_w]
                rfl
               refine pS_ 9 (some 69) rfl rfl HT_.out (by kernel_rfl) ?_ (fun _ _ _ h => h) (by rfl) ?_ ?_ ?_ ?_
               rotate_left
               ·intro w'
                go_simp
                with_reducible rfl
               rotate_left
               ·simp only [Act.put, List.setIfInBounds_toArray, List.set_cons_zero, List.set_cons_succ, i64_w, i32_w]
                rfl
               refine take_ (i := 11) (N := some 71) (v := ?_) (a' := ?_) #[true, true, true, true, true, true, true, true, true, true, true, true, true, false, false, true, true, false, true, false, false, false, false] rfl rfl (take_ofW HT_.out HW_.out (by kernel_rfl)) (fun _ _ _ h => h) (Or.inl ⟨by rfl, ?_⟩) hHeld ?_ ?_
               rotate_left
               ·rintro w' ⟨s0, s1, s2⟩
                go_simp
                with_reducible rfl
               rotate_left
               ·simp only [Act.put, List.setIfInBounds_toArray, List.set_cons_zero, List.set_cons_succ, i64_w, i32_w]
                rfl
               refine pS_ 13 (some 73) rfl rfl HT_.out (by kernel_rfl) ?_ (fun _ _ _ h => h) (by rfl) ?_ ?_ ?_ ?_
               rotate_left
               ·intro w'
                go_simp
                with_reducible rfl
               rotate_left
               ·simp only [Act.put, List.setIfInBounds_toArray, List.set_cons_zero, List.set_cons_succ, i64_w, i32_w]
                rfl
               refine pS_ 14 (some 74) rfl rfl HT_.out (by kernel_rfl) ?_ (fun _ _ _ h => h) (by rfl) ?_ ?_ ?_ ?_
               rotate_left
               ·intro w'
                go_simp
                with_reducible rfl
               rotate_left
               ·simp only [Act.put, List.setIfInBounds_toArray, List.set_cons_zero, List.set_cons_succ, i64_w, i32_w]
                rfl
               refine pS_ 17 (some 77) rfl rfl HT_.out (by kernel_rfl) ?_ (fun _ _ _ h => h) (by rfl) ?_ ?_ ?_ ?_
               rotate_left
               ·intro w'
                go_simp
                with_reducible rfl
               rotate_left
               ·simp only [Act.put, List.setIfInBounds_toArray, List.set_cons_zero, List.set_cons_succ, i64_w, i32_w]
                rfl
               refine take_ (i := 19) (N := some 79) (v := ?_) (a' := ?_) #[true, true, true, true, true, true, true, true, true, true, true, true, true, true, true, true, true, true, true, true, false, false, false] rfl rfl (take_ofW HT_.out HW_.out (by kernel_rfl)) (fun _ _ _ h => h) (Or.inl ⟨by rfl, ?_⟩) hHeld ?_ ?_
               rotate_left
               ·rintro w' ⟨s0, s1, s2⟩
                go_simp
                with_reducible rfl
               rotate_left
               ·simp only [Act.put, List.setIfInBounds_toArray, List.set_cons_zero, List.set_cons_succ, i64_w, i32_w]
                rfl
               refine pS_ 20 (some 80) rfl rfl HT_.out (by kernel_rfl) ?_ (fun _ _ _ h => h) (by rfl) ?_ ?_ ?_ ?_
               rotate_left
               ·intro w'
                go_simp
                with_reducible rfl
               rotate_left
               ·simp only [Act.put, List.setIfInBounds_toArray, List.set_cons_zero, List.set_cons_succ, i64_w, i32_w]
                rfl
               refine pS_ 21 (some 81) rfl rfl HT_.out (by kernel_rfl) ?_ (fun _ _ _ h => h) (by rfl) ?_ ?_ ?_ ?_
               rotate_left
               ·intro w'
                go_simp
                with_reducible rfl
               rotate_left
               ·simp only [Act.put, List.setIfInBounds_toArray, List.set_cons_zero, List.set_cons_succ, i64_w, i32_w]
                rfl
               refine last_ (i := 22) (N := none) #[true, true, true, true, true, true, true, true, true, true, true, true, true, true, true, true, true, true, true, true, true, true, true] rfl rfl (one_of HT_.out (by kernel_rfl)) (by decide) (fun K hK => ?_)
               refine skip_ (w1 := ?_) (by rfl) rfl ?_ ?_
               rotate_left
               ·go_simp
                rfl
               refine hK.out _ _ ?_
               clear hK K
               refine done_ (done_of HT_.out (by kernel_rfl)) ?_
               try go_wp2
               go_roundg k2
               case measure => have := HJ2.out; have := HK2.out; omega
               case rel => exact ⟨(y163), (wrap64 (x23_2 + 1)), (by first | rfl | (simp; done) | (simp [*]; done)), H', ⟨by have := HJ2.out; have := HK2.out; omega⟩, ⟨by (with_reducible repeat (first | apply Kd.R_alloc | apply Kd.R_drewN | apply Kd.R_drew)); exact HQ38.out⟩, ⟨by repeat (first | (with_reducible first | exact HB.out | apply below_alloc | apply pw_below_drewN | apply below_drew1 | refine below_set ?_ GB33.out | refine below_set ?_ GB33.out | refine below_set ?_ GB33.out | refine below_set ?_ GE162.out) | exact HB.out)⟩⟩
        ·rw [if_neg c11] at H
         have c11b0 : decide (x23_2 < (l1.length : Int)) = false := decide_eq_false c11
         clear c11
         simp only [Option.some.injEq, Prod.mk.injEq] at H
         obtain ⟨rfl, rfl⟩ := H
         go_wp2
         go_ret2
         exact ⟨_, by first | rfl | (simp [errW_none, errW_some] <;> rfl) | (simp [*, errW_none, errW_some] <;> rfl), gR (HO_6.out), bl HB.out⟩
     ·rw [if_neg c7] at H
      exact absurd H (by simp)

/-! ### bits_Mul32: function 51 -/
def bits_Mul32.f (a0 : Int) (a1 : Int) : Option (Int × Int) := some (((IntKind.u64.wrap ((IntKind.u64.wrap (a0)) * (IntKind.u64.wrap (a1)))) / 4294967296) % 4294967296, (IntKind.u64.wrap ((IntKind.u64.wrap (a0)) * (IntKind.u64.wrap (a1)))) % 4294967296)
set_option maxHeartbeats 8000000 in
set_option maxRecDepth 100000 in
theorem bits_Mul32.calls (a0 : Int) (a1 : Int) (r1 : Int) (r2 : Int) (w : World) (h : bits_Mul32.f a0 a1 = some (r1, r2)) :
  Calls Try.prog 51 #[.int .u32 a0, .int .u32 a1] w fun e w' => e = .returned (.tuple #[.int .u32 r1, .int .u32 r2]) ∧ Drawn0 w w' := by
 have H : (some (((IntKind.u64.wrap ((IntKind.u64.wrap (a0)) * (IntKind.u64.wrap (a1)))) / 4294967296) % 4294967296, (IntKind.u64.wrap ((IntKind.u64.wrap (a0)) * (IntKind.u64.wrap (a1)))) % 4294967296)) = some (r1, r2) := h
 clear h
 simp only [Option.some.injEq, Prod.mk.injEq] at H
 obtain ⟨rfl, rfl⟩ := H
 go_enter Try.func51, Try.ntmps51
 go_wp2
 go_ret2
 exact ⟨by first | rfl | (simp; done) | (simp [*]; done), by repeat (first | exact Drawn0.refl _ | apply Drawn0.step)⟩

/-! ### bits_Mul64: function 52 -/
def bits_Mul64.f (a0 : Int) (a1 : Int) : Option (Int × Int) := some (IntKind.u64.wrap ((IntKind.u64.wrap ((IntKind.u64.wrap ((a0 / 4294967296) * (a1 / 4294967296))) + ((IntKind.u64.wrap ((IntKind.u64.wrap ((a0 / 4294967296) * (Go.bits .and .u64 a1 4294967295))) + ((IntKind.u64.wrap ((Go.bits .and .u64 a0 4294967295) * (Go.bits .and .u64 a1 4294967295))) / 4294967296))) / 4294967296))) + ((IntKind.u64.wrap ((Go.bits .and .u64 (IntKind.u64.wrap ((IntKind.u64.wrap ((a0 / 4294967296) * (Go.bits .and .u64 a1 4294967295))) + ((IntKind.u64.wrap ((Go.bits .and .u64 a0 4294967295) * (Go.bits .and .u64 a1 4294967295))) / 4294967296))) 4294967295) + (IntKind.u64.wrap ((Go.bits .and .u64 a0 4294967295) * (a1 / 4294967296))))) / 4294967296)), IntKind.u64.wrap (a0 * a1))
set_option maxHeartbeats 8000000 in
set_option maxRecDepth 100000 in
theorem bits_Mul64.calls (a0 : Int) (a1 : Int) (r1 : Int) (r2 : Int) (w : World) (h : bits_Mul64.f a0 a1 = some (r1, r2)) :
  Calls Try.prog 52 #[.int .u64 a0, .int .u64 a1] w fun e w' => e = .returned (.tuple #[.int .u64 r1, .int .u64 r2]) ∧ Drawn0 w w' := by
 have H : (some (IntKind.u64.wrap ((IntKind.u64.wrap ((IntKind.u64.wrap ((a0 / 4294967296) * (a1 / 4294967296))) + ((IntKind.u64.wrap ((IntKind.u64.wrap ((a0 / 4294967296) * (Go.bits .and .u64 a1 4294967295))) + ((IntKind.u64.wrap ((Go.bits .and .u64 a0 4294967295) * (Go.bits .and .u64 a1 4294967295))) / 4294967296))) / 4294967296))) + ((IntKind.u64.wrap ((Go.bits .and .u64 (IntKind.u64.wrap ((IntKind.u64.wrap ((a0 / 4294967296) * (Go.bits .and .u64 a1 4294967295))) + ((IntKind.u64.wrap ((Go.bits .and .u64 a0 4294967295) * (Go.bits .and .u64 a1 4294967295))) / 4294967296))) 4294967295) + (IntKind.u64.wrap ((Go.bits .and .u64 a0 4294967295) * (a1 / 4294967296))))) / 4294967296)), IntKind.u64.wrap (a0 * a1))) = some (r1, r2) := h
 clear h
 simp only [Option.some.injEq, Prod.mk.injEq] at H
 obtain ⟨rfl, rfl⟩ := H
 go_enter Try.func52, Try.ntmps52
 go_wp2
 go_ret2
 exact ⟨by first | rfl | (simp; done) | (simp [*]; done), by repeat (first | exact Drawn0.refl _ | apply Drawn0.step)⟩

/-! ### bits_Mul: function 50 -/
def bits_Mul.f (a0 : Int) (a1 : Int) : Option (Int × Int) := (bits_Mul64.f a0 a1).bind fun bt164 => (some (bt164.1, bt164.2))
set_option maxHeartbeats 8000000 in
set_option maxRecDepth 100000 in
theorem bits_Mul.calls (a0 : Int) (a1 : Int) (r1 : Int) (r2 : Int) (w : World) (h : bits_Mul.f a0 a1 = some (r1, r2)) :
  Calls Try.prog 50 #[.int .u64 a0, .int .u64 a1] w fun e w' => e = .returned (.tuple #[.int .u64 r1, .int .u64 r2]) ∧ Drawn0 w w' := by
 have H : ((bits_Mul64.f a0 a1).bind fun bt164 => (some (bt164.1, bt164.2))) = some (r1, r2) := h
 clear h
 replace H := Option.bind_eq_some_iff.mp H
 obtain ⟨⟨t164, t165⟩, A30, H⟩ := H
 replace H : (some (t164, t165)) = some (r1, r2) := H
 have A3 := Aside0.mk A30
 clear A30
 simp only [Option.some.injEq, Prod.mk.injEq] at H
 obtain ⟨rfl, rfl⟩ := H
 go_enter Try.func50, Try.ntmps50
 go_wp2_with (first | ((with_reducible refine gate_callee (f := 52) rfl ?_); refine goesL_ (some 25) rfl rfl Try.func52 (by kernel_rfl) rfl #[.int .u64 a0, .int .u64 a1] rfl (by (try simp only [List.map_toArray, List.map_cons, List.map_nil]); first | done | rfl | (simp only [List.length_drop, List.length_take]; rfl)) ?_; (with_reducible refine (bits_Mul64.calls a0 a1 t164 t165 _ A3.out).mono ?_); rintro e w' ⟨rfl, ⟨nd, rfl⟩⟩; refine ⟨_, rfl, ?_⟩))
 go_ret2
 exact ⟨by first | rfl | (simp; done) | (simp [*]; done), by repeat (first | exact Drawn0.refl _ | apply Drawn0.step)⟩

end Go.Proofs.Ytcnkjcbjlopkmaa.Q
