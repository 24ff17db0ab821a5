-- Written out of the translation by a program of this session (wip/tools/myprint.py, over the kit's print). Lean checks it.
import Derived.Test.YtcnkjcbjlopkmaaSp
import Derived.Test.YtcnkjcbjlopkmaaSh
import Derived.Test.YtcnkjcbjlopkmaaQ0
import Derived.Test.YtcnkjcbjlopkmaaQ5
namespace Go.Proofs.Ytcnkjcbjlopkmaa.Q
open Go.RowKit Go.Proofs.YtcnkjcbjlopkmaaW.PrintWords Go.Proofs.YtcnkjcbjlopkmaaW.PrintLast Go.Proofs.YtcnkjcbjlopkmaaW.PrintMore
attribute [local go_sem] max2_int min2_int max_two min_two max_three min_three max_four min_four   -- for this text's walks alone
set_option linter.unusedVariables false
set_option linter.unusedSimpArgs false

/-! ### r14_back: function 33 -/
mutual
def r14_back.l0 : Nat → Int → List (S54) → Int → Int → Int → List (List Int) → Int → Option ((List (List Int)))
 | 0, _, _, _, _, _, _, _ => none
 | k + 1, x0, x1, x2, x3, x4, x11, x12 => if x12 ≤ x4 then (if 0 ≤ (wrap64 (x0 + 1)) then (if (wrap64 (x0 + 1) : Int).toNat ≤ 35184372088832 then (if 0 ≤ x12 then (if x12 < (x11.length : Int) then (r14_back.l1 k x0 x1 x2 x3 x4 (x11.set (x12 : Int).toNat (List.replicate (wrap64 (x0 + 1) : Int).toNat 0)) x12 0) else (none)) else (none)) else (none)) else (none)) else (some x11)
def r14_back.l1 : Nat → Int → List (S54) → Int → Int → Int → List (List Int) → Int → Int → Option ((List (List Int)))
 | 0, _, _, _, _, _, _, _, _ => none
 | k + 1, x0, x1, x2, x3, x4, x11, x12, x13 => if x13 ≤ x0 then (if 0 ≤ x12 then (if x12 < (x11.length : Int) then (if 0 ≤ x13 then (if x13 < ((rd_L4 x11 x12).length : Int) then (r14_back.l1 k x0 x1 x2 x3 x4 (x11.set (x12 : Int).toNat ((rd_L4 x11 x12).set (x13 : Int).toNat 1099511627776)) x12 (wrap64 (x13 + 1))) else (none)) else (none)) else (none)) else (none)) else (if x12 = 0 then (if 0 < (x11.length : Int) then (if 0 ≤ x3 then (if x3 < ((rd_L4 x11 0).length : Int) then (r14_back.l0 k x0 x1 x2 x3 x4 (x11.set (0 : Int).toNat ((rd_L4 x11 0).set (x3 : Int).toNat 0)) (wrap64 (x12 + 1))) else (none)) else (none)) else (none)) else (r14_back.l2 k x0 x1 x2 x3 x4 x11 x12 (wrap64 (x2 + 1))))
def r14_back.l2 : Nat → Int → List (S54) → Int → Int → Int → List (List Int) → Int → Int → Option ((List (List Int)))
 | 0, _, _, _, _, _, _, _, _ => none
 | k + 1, x0, x1, x2, x3, x4, x11, x12, x14 => if x14 < (x1.length : Int) then (if 0 ≤ x14 then ((r14_row.f x0 ((rd_T54 x1 x14).f0)).bind fun t289 => ((r14_row.f x0 ((rd_T54 x1 x14).f1)).bind fun t291 => (if 0 ≤ (wrap64 (x12 - 1)) then (if (wrap64 (x12 - 1)) < (x11.length : Int) then (if 0 ≤ t291 then (if t291 < ((rd_L4 x11 (wrap64 (x12 - 1))).length : Int) then (if (rd (rd_L4 x11 (wrap64 (x12 - 1))) t291) < 1099511627776 then (if 0 ≤ x12 then (if x12 < (x11.length : Int) then (if 0 ≤ t289 then (if t289 < ((rd_L4 x11 x12).length : Int) then (r14_back.l2 k x0 x1 x2 x3 x4 (x11.set (x12 : Int).toNat ((rd_L4 x11 x12).set (t289 : Int).toNat (mn (rd (rd_L4 x11 x12) t289) (wrap64 (((rd_T54 x1 x14).f2) + (rd (rd_L4 x11 (wrap64 (x12 - 1))) t291)))))) x12 (wrap64 (x14 + 1))) else (none)) else (none)) else (none)) else (none)) else (r14_back.l2 k x0 x1 x2 x3 x4 x11 x12 (wrap64 (x14 + 1)))) else (none)) else (none)) else (none)) else (none)))) else (none)) else (r14_back.l0 k x0 x1 x2 x3 x4 x11 (wrap64 (x12 + 1)))
end
def r14_back.f (k : Nat) (a0 : Int) (l1 : List (S54)) (a2 : Int) (a3 : Int) (a4 : Int) : Option ((List (List Int))) := if 0 ≤ (wrap64 (a4 + 1)) then (if (wrap64 (a4 + 1) : Int).toNat ≤ 11728124029610 then (r14_back.l0 k a0 l1 a2 a3 a4 (List.replicate (wrap64 (a4 + 1) : Int).toNat []) 0) else (none)) else (none)
theorem r14_back.mono_l : ∀ k, (∀ y0 y1 y2 y3 y4 y5 y6, LeO (r14_back.l0 k y0 y1 y2 y3 y4 y5 y6) (r14_back.l0 (k + 1) y0 y1 y2 y3 y4 y5 y6)) ∧ (∀ y0 y1 y2 y3 y4 y5 y6 y7, LeO (r14_back.l1 k y0 y1 y2 y3 y4 y5 y6 y7) (r14_back.l1 (k + 1) y0 y1 y2 y3 y4 y5 y6 y7)) ∧ (∀ y0 y1 y2 y3 y4 y5 y6 y7, LeO (r14_back.l2 k y0 y1 y2 y3 y4 y5 y6 y7) (r14_back.l2 (k + 1) y0 y1 y2 y3 y4 y5 y6 y7))
 | 0 => ⟨fun _ _ _ _ _ _ _ r h => by simp [r14_back.l0] at h, fun _ _ _ _ _ _ _ _ r h => by simp [r14_back.l1] at h, fun _ _ _ _ _ _ _ _ r h => by simp [r14_back.l2] at h⟩
 | k + 1 => by
  obtain ⟨ih0, ih1, ih2⟩ := r14_back.mono_l k
  refine ⟨?_, ?_, ?_⟩
  ·intro y0 y1 y2 y3 y4 y5 y6
   unfold r14_back.l0
   repeat' first
   | (with_reducible exact ih0 _ _ _ _ _ _ _)
   | (with_reducible exact ih1 _ _ _ _ _ _ _ _)
   | (with_reducible exact ih2 _ _ _ _ _ _ _ _)
   | (with_reducible exact LeO.refl _)
   | (with_reducible exact LeO.none _)
   | (with_reducible refine LeO.ite ?_ ?_)
   | (with_reducible refine LeO.bind ?_ (fun _ => ?_))
   | exact LeO.none _
   | refine LeO.ite ?_ ?_
   | refine LeO.bind ?_ (fun _ => ?_)
  ·intro y0 y1 y2 y3 y4 y5 y6 y7
   unfold r14_back.l1
   repeat' first
   | (with_reducible exact ih0 _ _ _ _ _ _ _)
   | (with_reducible exact ih1 _ _ _ _ _ _ _ _)
   | (with_reducible exact ih2 _ _ _ _ _ _ _ _)
   | (with_reducible exact LeO.refl _)
   | (with_reducible exact LeO.none _)
   | (with_reducible refine LeO.ite ?_ ?_)
   | (with_reducible refine LeO.bind ?_ (fun _ => ?_))
   | exact LeO.none _
   | refine LeO.ite ?_ ?_
   | refine LeO.bind ?_ (fun _ => ?_)
  ·intro y0 y1 y2 y3 y4 y5 y6 y7
   unfold r14_back.l2
   repeat' first
   | (with_reducible exact ih0 _ _ _ _ _ _ _)
   | (with_reducible exact ih1 _ _ _ _ _ _ _ _)
   | (with_reducible exact ih2 _ _ _ _ _ _ _ _)
   | (with_reducible exact LeO.refl _)
   | (with_reducible exact LeO.none _)
   | (with_reducible refine LeO.ite ?_ ?_)
   | (with_reducible refine LeO.bind ?_ (fun _ => ?_))
   | exact LeO.none _
   | refine LeO.ite ?_ ?_
   | refine LeO.bind ?_ (fun _ => ?_)
theorem r14_back.mono : ∀ a0 a1 a2 a3 a4 k, LeO (r14_back.f k a0 a1 a2 a3 a4) (r14_back.f (k + 1) a0 a1 a2 a3 a4) := by
 intro a0 a1 a2 a3 a4 k
 obtain ⟨ih0, ih1, ih2⟩ := r14_back.mono_l k
 unfold r14_back.f
 repeat' first
   | (with_reducible exact ih0 _ _ _ _ _ _ _)
   | (with_reducible exact ih1 _ _ _ _ _ _ _ _)
   | (with_reducible exact ih2 _ _ _ _ _ _ _ _)
   | (with_reducible exact LeO.refl _)
   | (with_reducible exact LeO.none _)
   | (with_reducible refine LeO.ite ?_ ?_)
   | (with_reducible refine LeO.bind ?_ (fun _ => ?_))
   | exact LeO.none _
   | refine LeO.ite ?_ ?_
   | refine LeO.bind ?_ (fun _ => ?_)
def r14_back.T18 : Bool × List (List Nat × List Nat) := (true, [([], []), ([], []), ([0, 1], [0, 1]), ([2], [2]), ([], []), ([], []), ([], []), ([5, 6], [5, 6]), ([7], [7]), ([], []), ([8, 9], [8, 9]), ([10], [10]), ([], []), ([], []), ([12, 13], [12, 13]), ([14], [14]), ([15], [15]), ([], []), ([], []), ([18], [18]), ([17, 19], [17, 19]), ([20], [20]), ([], []), ([21, 22], [21, 22]), ([23], [23]), ([16, 24], [16, 24]), ([11, 25], [11, 25]), ([3, 4, 0, 1, 2, 3, 4, 5, 6, 7, 8, 9, 10, 11, 12, 13, 14, 15, 16, 17, 18, 19, 20, 21, 22, 23, 24, 25, 26], [3, 4]), ([27, 26, 0, 1, 2, 3, 4, 5, 6, 7, 8, 9, 10, 11, 12, 13, 14, 15, 16, 17, 18, 19, 20, 21, 22, 23, 24, 25, 26], [26, 27])])
def r14_back.B18 : List Nat := [0, 0, 3, 7, 0, 0, 0, 96, 224, 0, 992, 2016, 0, 0, 12288, 28672, 61440, 0, 0, 262144, 917504, 1966080, 0, 8257536, 16646144, 33550336, 67108832, 134217727, 268435455]
theorem r14_back.tab18 : rtab .any (opsOf Try.f33 18) = r14_back.T18 := by kernel_rfl
theorem r14_back.bits18 : waitsOk r14_back.T18.2 r14_back.B18 = true := by kernel_rfl
set_option maxHeartbeats 8000000 in
set_option maxRecDepth 100000 in
theorem r14_back.calls (k : Nat) (a0 : Int) (A1 : Option Addr) (c1 : Nat) (l1 : List (S54)) (a2 : Int) (a3 : Int) (a4 : Int) (r : List (List Int)) (w : World) (hr1 : Kd.C k54 w A1 l1.length l1) (hc1 : l1.length ≤ c1) (h : r14_back.f k a0 l1 a2 a3 a4 = some r) :
  Calls Try.prog 33 #[.int .i64 a0, .slice A1 l1.length c1, .int .i64 a2, .int .i64 a3, .int .i64 a4] w fun e w' => ∃ v0_ : Value, e = .returned (v0_) ∧ Kd.S (Kd.slice 3 (Kd.int .i64)) 22 w' w.heap.size (fun _ => True) v0_ r ∧ Below w.heap.size w w' := by
 have HR1 := Aside0.mk hr1
 have HC1 := Aside0.mk hc1
 clear hr1 hc1
 have HB := Aside0.mk (Below.refl w.heap.size w)
 have H : (if 0 ≤ (wrap64 (a4 + 1)) then (if (wrap64 (a4 + 1) : Int).toNat ≤ 11728124029610 then (r14_back.l0 k a0 l1 a2 a3 a4 (List.replicate (wrap64 (a4 + 1) : Int).toNat []) 0) else (none)) else (none)) = some r := h
 clear h
 obtain ⟨ji6, hji6⟩ : ∃ j_ : Int, (wrap64 (a4 + 1)) = j_ := ⟨_, rfl⟩
 replace H : (if 0 ≤ (ji6) then (if (ji6 : Int).toNat ≤ 11728124029610 then (r14_back.l0 k a0 l1 a2 a3 a4 (List.replicate (ji6 : Int).toNat []) 0) else (none)) else (none)) = some r := by first | (rw [hji6] at H; exact H) | (simp only [hji6] at H ⊢; exact H)
 have hji6w : (IntKind.i64.wrap (a4 + 1)) = ji6 := (i64_w _).trans hji6
 by_cases c7 : 0 ≤ (ji6)
 ·rw [if_pos c7] at H
  have c7b0 := eq_true c7
  have c7b1 : decide (0 ≤ (ji6)) = true := decide_eq_true c7
  clear c7
  by_cases c8 : (ji6 : Int).toNat ≤ 11728124029610
  case neg => rw [if_neg c8] at H; exact absurd H (by simp)
  rw [if_pos c8] at H
  have c8b0 := eq_true c8
  have c8b1 : decide ((ji6 : Int).toNat ≤ 11728124029610) = true := decide_eq_true c8
  clear c8
  obtain ⟨y273, hy273⟩ : ∃ y_ : List (List Int), y_ = (List.replicate (ji6 : Int).toNat []) := ⟨_, rfl⟩
  replace H : (r14_back.l0 k a0 l1 a2 a3 a4 y273 0) = some r := by first | (rw [hy273]; with_reducible exact H) | (have H2_ := (Option.bind_some _ _).symm.trans H; rw [hy273]; with_reducible exact H2_) | (have H2_ := (Option.bind_some _ _).symm.trans H; with_reducible exact H2_) | with_reducible exact H | (rw [hy273]; exact H) | exact H
  have Ny273 := Aside0.mk hy273
  clear hy273
  have H' := Aside0.mk H
  clear H
  go_enter Try.func33, Try.ntmps33
  go_wp2_with (first | ((with_reducible refine gate_dst (N := 19) rfl ?_); refine Kd.S_make (Kd.slice 3 (Kd.int .i64)) _ 22 rfl (N := 19) rfl 29 _ _ rfl ji6 rfl rfl Try.underlying29 (.slice none 0 0) 24 info22 rfl (by decide) (by omega) [] (ok := fun _ => True) (okp := fun _ => True) ⟨_, rfl, Kd.R_nil _ _ _ _ _⟩ (fun _ hk => hk) trivial (of_decide_eq_true (by first | (with_reducible assumption) | assumption)) (Nat.le_trans (Nat.mul_le_mul_right _ (of_decide_eq_true (by first | (with_reducible assumption) | assumption) : ji6.toNat ≤ 11728124029610)) (by omega)) (Below.refl _ _) (Nat.le_refl _) ?_; intro v274 w9 ho10 hb hg_ hnew_; clear hg_ hnew_; (first | rw [← Ny273.out] at ho10 | (simp only [Int.reduceToNat] at ho10; rw [← Ny273.out] at ho10)); have n0_ := Aside0.mk (Kd.S_lower ho10 (below_size (by repeat (first | (with_reducible first | exact HB.out | apply below_alloc | apply pw_below_drewN | apply below_drew1) | exact HB.out)))); have n1_ := Aside0.mk (below_step (by repeat (first | (with_reducible first | exact HB.out | apply below_alloc | apply pw_below_drewN | apply below_drew1) | exact HB.out)) hb); clear HB; have HO275 := n0_; have HB := n1_; clear n0_ n1_; clear hb ho10))
  go_loopg [12] k (fun kq v12 w' => ∃ (x11_1 : List (List Int)) (x12_1 : Int), v12 = .int .i64 x12_1 ∧ Aside0 (r14_back.l0 kq a0 l1 a2 a3 a4 x11_1 x12_1 = some r) ∧ Aside0 (kq ≤ k) ∧ Aside0 (Kd.S (Kd.slice 3 (Kd.int .i64)) 22 w' w.heap.size (fun _ => True) v274 x11_1) ∧ Aside0 (Below w.heap.size w w'))
  case atStart => exact ⟨(y273), (0), (by first | rfl | (simp; done) | (simp [*]; done)), H', ⟨Nat.le_refl _⟩, ⟨by (with_reducible repeat (first | apply Kd.S_alloc | apply Kd.S_drewN | apply Kd.S_drew)); exact HO275.out⟩, ⟨by repeat (first | (with_reducible first | exact HB.out | apply below_alloc | apply pw_below_drewN | apply below_drew1) | exact HB.out)⟩⟩
  case round =>
   clear H'
   try clear c1
   try clear p2
   try clear c3
   try clear p6
   try clear c7
   try clear c7b0
   try clear c7b1
   try clear c8
   try clear c8b0
   try clear c8b1
   obtain ⟨x11_1, x12_1, rfl, HA, HK1, HO_11, HB⟩ := hrel
   cases gk with
   | zero => exact absurd HA.out (by simp [r14_back.l0])
   | succ k1 =>
    have H := HA.out
    clear HA
    simp only [r14_back.l0] at H
    by_cases c11 : x12_1 ≤ a4
    ·rw [if_pos c11] at H
     have c11b0 : decide (x12_1 ≤ a4) = true := decide_eq_true c11
     clear c11
     obtain ⟨ji12, hji12⟩ : ∃ j_ : Int, (wrap64 (a0 + 1)) = j_ := ⟨_, rfl⟩
     replace H : (if 0 ≤ (ji12) then (if (ji12 : Int).toNat ≤ 35184372088832 then (if 0 ≤ x12_1 then (if x12_1 < (x11_1.length : Int) then (r14_back.l1 k1 a0 l1 a2 a3 a4 (x11_1.set (x12_1 : Int).toNat (List.replicate (ji12 : Int).toNat 0)) x12_1 0) else (none)) else (none)) else (none)) else (none)) = some r := by first | (rw [hji12] at H; exact H) | (simp only [hji12] at H ⊢; exact H)
     have hji12w : (IntKind.i64.wrap (a0 + 1)) = ji12 := (i64_w _).trans hji12
     by_cases c13 : 0 ≤ (ji12)
     case neg => rw [if_neg c13] at H; exact absurd H (by simp)
     rw [if_pos c13] at H
     have c13b0 := eq_true c13
     have c13b1 : decide (0 ≤ (ji12)) = true := decide_eq_true c13
     clear c13
     by_cases c14 : (ji12 : Int).toNat ≤ 35184372088832
     case neg => rw [if_neg c14] at H; exact absurd H (by simp)
     rw [if_pos c14] at H
     have c14b0 := eq_true c14
     have c14b1 : decide ((ji12 : Int).toNat ≤ 35184372088832) = true := decide_eq_true c14
     clear c14
     obtain ⟨y276, hy276⟩ : ∃ y_ : List Int, y_ = (List.replicate (ji12 : Int).toNat 0) := ⟨_, rfl⟩
     replace H : (if 0 ≤ x12_1 then (if x12_1 < (x11_1.length : Int) then (r14_back.l1 k1 a0 l1 a2 a3 a4 (x11_1.set (x12_1 : Int).toNat y276) x12_1 0) else (none)) else (none)) = some r := by first | (rw [hy276]; with_reducible exact H) | (have H2_ := (Option.bind_some _ _).symm.trans H; rw [hy276]; with_reducible exact H2_) | (have H2_ := (Option.bind_some _ _).symm.trans H; with_reducible exact H2_) | with_reducible exact H | (rw [hy276]; exact H) | exact H
     have Ny276 := Aside0.mk hy276
     clear hy276
     by_cases c15 : 0 ≤ x12_1
     case neg => rw [if_neg c15] at H; exact absurd H (by simp)
     rw [if_pos c15] at H
     have c15b0 : decide (0 ≤ x12_1) = true := decide_eq_true c15
     clear c15
     by_cases c16 : x12_1 < (x11_1.length : Int)
     case neg => rw [if_neg c16] at H; exact absurd H (by simp)
     rw [if_pos c16] at H
     have c16b0 : decide (x12_1 < (x11_1.length : Int)) = true := decide_eq_true c16
     clear c16
     obtain ⟨y279, hy279⟩ : ∃ y_ : List (List Int), y_ = (x11_1.set (x12_1 : Int).toNat y276) := ⟨_, rfl⟩
     replace H : (r14_back.l1 k1 a0 l1 a2 a3 a4 y279 x12_1 0) = some r := by first | (rw [hy279]; with_reducible exact H) | (have H2_ := (Option.bind_some _ _).symm.trans H; rw [hy279]; with_reducible exact H2_) | (have H2_ := (Option.bind_some _ _).symm.trans H; with_reducible exact H2_) | with_reducible exact H | (rw [hy279]; exact H) | exact H
     have Ny279 := Aside0.mk hy279
     clear hy279
     have H' := Aside0.mk H
     clear H
     go_wp2_with (first | ((with_reducible refine gate_dst (N := 29) rfl ?_); refine Kd.R_make (Kd.int .i64) _ 3 rfl (N := 29) rfl 22 _ _ rfl ji12 rfl rfl Try.underlying22 (.int .i64 0) 8 info3 rfl (by decide) (by omega) 0 (ok := fun _ => True) (okp := fun _ => True) rfl (fun _ hk => hk) trivial (of_decide_eq_true (by first | (with_reducible assumption) | assumption)) (Nat.le_trans (Nat.mul_le_mul_right _ (of_decide_eq_true (by first | (with_reducible assumption) | assumption) : ji12.toNat ≤ 35184372088832)) (by omega)) (Below.refl _ _) (Nat.le_refl _) ?_; intro v277 w18 ho19 hb hg_ hnew_; clear hg_ hnew_; (first | rw [← Ny276.out] at ho19 | (simp only [Int.reduceToNat] at ho19; rw [← Ny276.out] at ho19)); obtain ⟨Ao9277, co9277, eo9277⟩ := Kd.R_slice ho19; subst eo9277; have n0_ := Aside0.mk (Kd.S_elder' (by (with_reducible repeat (first | apply Kd.S_alloc | apply Kd.S_drewN | apply Kd.S_drew)); exact HO_11.out) (Kd.R_base ho19) hb); have n1_ := Aside0.mk (Kd.R_lower ho19 (below_size (by repeat (first | (with_reducible first | exact HB.out | apply below_alloc | apply pw_below_drewN | apply below_drew1) | exact HB.out)))); have n2_ := Aside0.mk (below_step (by repeat (first | (with_reducible first | exact HB.out | apply below_alloc | apply pw_below_drewN | apply below_drew1) | exact HB.out)) hb); clear HO_11; clear HB; have HO_11 := n0_; have HO278 := n1_; have HB := n2_; clear n0_ n1_ n2_; clear hb ho19; have p17 : 0 ≤ (x12_1 : Int) := of_decide_eq_true (by first | (with_reducible assumption) | assumption); have q17 : (x12_1 : Int) < ((x11_1.length : Int) : Int) := of_decide_eq_true (by first | (with_reducible assumption) | assumption); obtain ⟨go17, co17, eo17, gb17, gl17, cl17, HG17⟩ := Kd.S_form HO_11.out (by omega); (first | cases eo17 | (injection eo17 with ea_ en_ ec_; (first | subst ea_ | (injection ea_ with ea_; subst ea_)); subst ec_; clear en_)); have GB17 := Aside0.mk gb17; have GG17 := Aside0.mk HG17; clear gb17 gl17 HG17; obtain ⟨_, ce17, hcl17, hM17, hcc17, hfr17, _, _⟩ := Kd.S_elem HO_11.out [] (x12_1 : Int) p17 q17; obtain ⟨ve17_0, rfl, ge17_0⟩ := hM17; have hx17_0 := hcc17 0 _ rfl; have hf17_0 := hfr17 0; (try simp only [show ((Kd.slice 3 (Kd.int .i64))).sz = 1 from rfl, Nat.mul_one, Nat.add_zero] at hx17_0); (try simp only [show ((Kd.slice 3 (Kd.int .i64))).sz = 1 from rfl, Nat.mul_one, Nat.add_zero] at hf17_0); (try clear hM17); clear hcl17 hcc17 hfr17; replace p17 := eq_true p17; replace q17 := eq_true q17; have n_ := Aside0.mk (Kd.S_mono (ok' := (fun k_ => some k_ ≠ ((.slice Ao9277 y276.length co9277 : Value) : Value).ownBlock)) HO_11.out (fun k_ hk => hk.2)); clear HO_11; have HO_11 := n_; clear n_; have HX20 := Aside0.mk (show Kd.S (Kd.slice 3 (Kd.int .i64)) 22 w18 w.heap.size (fun k_ => ((fun _ => True)) k_ ∧ ¬ ((fun k_ => some k_ = ((.slice Ao9277 y276.length co9277 : Value) : Value).ownBlock)) k_) (.slice (some ⟨go17, 0, none⟩) x11_1.length co17) x11_1 from (by (with_reducible repeat (first | apply Kd.S_alloc | apply Kd.S_drewN | apply Kd.S_drew)); exact Kd.S_mono HO_11.out (fun k_ hk => ⟨trivial, fun e_ => hk e_⟩))); obtain ⟨oki20, ce20, hcl20, hM20, hcc20, hfr20, hoki20, hH20⟩ := Kd.S_elem HX20.out [] (x12_1 : Int) (of_decide_eq_true (by first | (with_reducible assumption) | assumption)) (by have h_ : (x12_1 : Int) < ((x11_1.length : Int) : Int) := of_decide_eq_true (by first | (with_reducible assumption) | assumption); first | exact h_ | (have e_ := (Kd.S_reads' HO_11.out).1; omega) | simpa using h_); obtain ⟨ve20_0, rfl, ge20_0⟩ := hM20; have HP20 := Kd.S_seg hH20 (of_decide_eq_true (by first | (with_reducible assumption) | assumption)) (by have h_ : (x12_1 : Int) < ((x11_1.length : Int) : Int) := of_decide_eq_true (by first | (with_reducible assumption) | assumption); first | exact h_ | (have e_ := (Kd.S_reads' HO_11.out).1; omega) | simpa using h_) (seg := [(.slice Ao9277 y276.length co9277 : Value)]) (j := 0) (show 1 ≤ 1 from by decide) (x' := y276) (Kd.M_row (Kd.R_mono (Kd.R_tight rfl (Kd.R_mono (ok' := fun k_ => ((fun _ => True)) k_ ∧ k_ ≠ go17) (Kd.R_apart' (HO278.out) (Kd.S_typed HO_11.out) (by decide)) (fun k_ hk => ⟨trivial, fun e_ => (hk.2) (by rw [e_]; rfl)⟩))) (fun _ h_ => Or.inr (h_)))) (fun _ hk => hk) (fun k_ hk_ => ((Kd.R_mono (ok' := fun k_ => ((fun _ => True)) k_ ∧ k_ ≠ go17) (Kd.R_apart' (HO278.out) (Kd.S_typed HO_11.out) (by decide)) (fun k_ hk => ⟨trivial, fun e_ => (hk.2) (by rw [e_]; rfl)⟩))).1 k_ hk_.symm); have hx20_0 := hcc20 0 _ rfl; (try simp only [show ((Kd.slice 3 (Kd.int .i64))).sz = 1 from rfl, Nat.mul_one, Nat.add_zero] at hx20_0); have hf20_0 := hfr20 0; (try simp only [show ((Kd.slice 3 (Kd.int .i64))).sz = 1 from rfl, Nat.mul_one, Nat.add_zero] at hf20_0); (try clear hM20); clear hcl20 hcc20 hfr20 hoki20 hH20; (try simp only [show ((Kd.slice 3 (Kd.int .i64))).sz = 1 from rfl, Nat.mul_one, Nat.add_zero] at HP20)) | ((with_reducible refine gate_store (t := 22) (p := 30) rfl ?_); refine store_event (t := 22) (p := 30) (v := ?vo_w21) (w1 := (w18.setCell ⟨go17, (x12_1 : Int).toNat, none⟩ ((.slice Ao9277 y276.length co9277 : Value)))) ?hg ?ho ?hn ?hr ?_; (case ho => rfl); (case hg => rfl); (case hn => rfl); (case hr => first | (go_simp; done) | (go_simp; rfl)); intro w21 hw; have hg : w18.grownBy w21 (some go17) := (by rw [hw]; exact HP20.2); have hp_ : Kd.S (Kd.slice 3 (Kd.int .i64)) 22 w21 w.heap.size (fun _ => True) (.slice (some ⟨go17, 0, none⟩) x11_1.length co17) y279 := (by rw [hw, Ny279.out]; exact HP20.1); clear HP20; have n0_ := Aside0.mk (hp_); have n1_ := Aside0.mk ((by rw [hw]; exact below_set (HB.out) GB17.out : Below w.heap.size w w21)); clear HO_11; clear HB; clear HO278; have HO_11 := n0_; have HB := n1_; clear n0_ n1_; clear hg hw hp_))
     go_loopg [13] k1 (fun kq v13 w' => ∃ (x11_2 : List (List Int)) (x13_2 : Int), v13 = .int .i64 x13_2 ∧ Aside0 (r14_back.l1 kq a0 l1 a2 a3 a4 x11_2 x12_1 x13_2 = some r) ∧ Aside0 (kq ≤ k1) ∧ Aside0 (Kd.S (Kd.slice 3 (Kd.int .i64)) 22 w' w.heap.size (fun _ => True) (.slice (some ⟨go17, 0, none⟩) x11_1.length co17) x11_2) ∧ Aside0 (Below w.heap.size w w'))
     case atStart => exact ⟨(y279), (0), (by first | rfl | (simp; done) | (simp [*]; done)), H', ⟨Nat.le_refl _⟩, ⟨by (with_reducible repeat (first | apply Kd.S_alloc | apply Kd.S_drewN | apply Kd.S_drew)); exact HO_11.out⟩, ⟨by repeat (first | (with_reducible first | exact HB.out | apply below_alloc | apply pw_below_drewN | apply below_drew1) | exact HB.out)⟩⟩
     case round =>
      clear H'
      try clear c1
      try clear p1
      try clear q1
      try clear hx1
      try clear c2
      try clear p2
      try clear hx2
      try clear c3
      try clear p6
      try clear c7
      try clear c7b0
      try clear c7b1
      try clear c8
      try clear c8b0
      try clear c8b1
      try clear c11
      try clear c11b0
      try clear c13
      try clear c13b0
      try clear c13b1
      try clear c14
      try clear c14b0
      try clear c14b1
      try clear c15
      try clear c15b0
      try clear c16
      try clear c16b0
      try clear c17
      try clear p17
      try clear q17
      try clear hx17
      try clear hf17
      try clear c20
      try clear hx20
      try clear hf20
      try clear hx17_0
      try clear hx20_0
      try clear p17
      try clear p2
      try clear p6
      try clear q17
      obtain ⟨x11_2, x13_2, rfl, HA, HK2, HO_11, HB⟩ := hrel
      have hl11_2 := (Kd.S_reads' HO_11.out).1
      rw [hl11_2] at HO_11
      (try simp only [hl11_2])
      cases gk with
      | zero => exact absurd HA.out (by simp [r14_back.l1])
      | succ k2 =>
       have H := HA.out
       clear HA
       simp only [r14_back.l1] at H
       by_cases c22 : x13_2 ≤ a0
       ·rw [if_pos c22] at H
        have c22b0 : decide (x13_2 ≤ a0) = true := decide_eq_true c22
        clear c22
        by_cases c23 : 0 ≤ x12_1
        case neg => rw [if_neg c23] at H; exact absurd H (by simp)
        rw [if_pos c23] at H
        have c23b0 : decide (0 ≤ x12_1) = true := decide_eq_true c23
        clear c23
        by_cases c24 : x12_1 < (x11_2.length : Int)
        case neg => rw [if_neg c24] at H; exact absurd H (by simp)
        rw [if_pos c24] at H
        have c24b0 : decide (x12_1 < (x11_2.length : Int)) = true := decide_eq_true c24
        have c24b0x := c24b0; (try simp only [hl11_2] at c24b0x)
        clear c24
        by_cases c25 : 0 ≤ x13_2
        case neg => rw [if_neg c25] at H; exact absurd H (by simp)
        rw [if_pos c25] at H
        have c25b0 : decide (0 ≤ x13_2) = true := decide_eq_true c25
        clear c25
        by_cases c26 : x13_2 < ((rd_L4 x11_2 x12_1).length : Int)
        case neg => rw [if_neg c26] at H; exact absurd H (by simp)
        rw [if_pos c26] at H
        have c26b0 : decide (x13_2 < ((rd_L4 x11_2 x12_1).length : Int)) = true := decide_eq_true c26
        have c26b0x := c26b0; (try simp only [hl11_2] at c26b0x)
        clear c26
        obtain ⟨y281, hy281⟩ : ∃ y_ : List Int, y_ = ((rd_L4 x11_2 x12_1).set (x13_2 : Int).toNat 1099511627776) := ⟨_, rfl⟩
        replace H : (r14_back.l1 k2 a0 l1 a2 a3 a4 (x11_2.set (x12_1 : Int).toNat y281) x12_1 (wrap64 (x13_2 + 1))) = some r := by first | (rw [hy281]; with_reducible exact H) | (have H2_ := (Option.bind_some _ _).symm.trans H; rw [hy281]; with_reducible exact H2_) | (have H2_ := (Option.bind_some _ _).symm.trans H; with_reducible exact H2_) | with_reducible exact H | (rw [hy281]; exact H) | exact H
        have Ny281 := Aside0.mk hy281
        clear hy281
        obtain ⟨y283, hy283⟩ : ∃ y_ : List (List Int), y_ = (x11_2.set (x12_1 : Int).toNat y281) := ⟨_, rfl⟩
        replace H : (r14_back.l1 k2 a0 l1 a2 a3 a4 y283 x12_1 (wrap64 (x13_2 + 1))) = some r := by first | (rw [hy283]; with_reducible exact H) | (have H2_ := (Option.bind_some _ _).symm.trans H; rw [hy283]; with_reducible exact H2_) | (have H2_ := (Option.bind_some _ _).symm.trans H; with_reducible exact H2_) | with_reducible exact H | (rw [hy283]; exact H) | exact H
        have Ny283 := Aside0.mk hy283
        clear hy283
        have H' := Aside0.mk H
        clear H
        have p280 : 0 ≤ (x12_1 : Int) := of_decide_eq_true (by first | (with_reducible assumption) | assumption)
        have q280 : x12_1 < (x11_2.length : Int) := of_decide_eq_true (by first | (with_reducible assumption) | assumption)
        obtain ⟨ad280, A280_0, c280_0, e280, hx280_0, hl280_0, hi280_0⟩ := at_L4 (Kd.S_reads' HO_11.out).2.2 x12_1 p280 q280
        obtain rfl : (⟨go17, 0, none⟩ : Addr) = ad280 := (by injection e280)
        obtain ⟨ce280, hce280, hMe280, hcc280⟩ := Kd.S_get HO_11.out [] x12_1 p280 (by first | exact q280 | exact of_decide_eq_true (by first | (with_reducible assumption) | assumption) | (have e_ := (Kd.S_reads' HO_11.out).1; omega))
        obtain ⟨ve280_0, rfl, ge280_0⟩ := hMe280
        have hv280_0 := hcc280 0 _ rfl
        rw [Nat.add_zero, show ((Kd.slice 3 (Kd.int .i64))).sz = 1 from rfl, Nat.mul_one] at hv280_0
        replace hv280_0 := Option.some.inj (hv280_0.symm.trans hx280_0)
        rw [hv280_0] at ge280_0
        have HL280_0 := Aside0.mk (show Kd.R (Kd.int .i64) 3 _ _ _ _ (rd_L4 x11_2 x12_1) from ge280_0)
        clear hv280_0 ge280_0
        have HX280_0 := Aside0.mk hx280_0
        clear hcc280 hce280
        (first | simp only [add_plain] at hx280_0 | simp only [add_at] at hx280_0 | simp only [Addr.add, Nat.zero_add] at hx280_0 | skip)
        have HR280_0 := Aside0.mk hi280_0
        have HC280_0 := Aside0.mk hl280_0
        clear hi280_0 hl280_0
        replace p280 := eq_true p280
        replace q280 := eq_true q280
        have p27 : 0 ≤ (x13_2 : Int) := of_decide_eq_true (by first | (with_reducible assumption) | assumption)
        have q27 : (x13_2 : Int) < (((rd_L4 x11_2 x12_1).length : Int) : Int) := of_decide_eq_true (by first | (with_reducible assumption) | assumption)
        obtain ⟨go27, co27, eo27, gb27, gl27, cl27, HG27⟩ := Kd.R_form HL280_0.out (by omega)
        (first | cases eo27 | (injection eo27 with ea_ en_ ec_; (first | subst ea_ | (injection ea_ with ea_; subst ea_)); subst ec_; clear en_))
        have GB27 := Aside0.mk gb27
        have GG27 := Aside0.mk HG27
        clear gb27 gl27 HG27
        obtain ⟨hx27_0, hf27_0⟩ := Kd.R_celln 0 HL280_0.out (x13_2 : Int) p27 q27
        replace p27 := eq_true p27
        replace q27 := eq_true q27
        have hq28 : (x12_1 : Int) < (x11_2.length : Int) := (by have h_ : (x12_1 : Int) < ((x11_2.length : Int) : Int) := of_decide_eq_true (by first | (with_reducible assumption) | assumption); first | exact h_ | (have e_ := (Kd.S_reads' HO_11.out).1; omega) | simpa only [List.length_set, List.length_set] using h_)
        obtain ⟨oki28, ce28, hcl28, hM28, hcc28, hok28, hbk28⟩ := Kd.S_borrow HO_11.out [] (x12_1 : Int) (of_decide_eq_true (by first | (with_reducible assumption) | assumption)) hq28
        obtain ⟨ve28_0, rfl, ge28_0⟩ := hM28
        have hv28 := hcc28 0 _ rfl
        rw [Nat.add_zero, show ((Kd.slice 3 (Kd.int .i64))).sz = 1 from rfl, Nat.mul_one] at hv28
        replace hv28 := Option.some.inj (hv28.symm.trans HX280_0.out)
        subst hv28
        clear hcc28 hcl28
        replace ge28_0 := (show Kd.R (Kd.int .i64) 3 _ _ _ _ (rd_L4 x11_2 x12_1) from ge28_0)
        have HP28 := Kd.R_putg ge28_0 (x13_2 : Int) 1099511627776
        go_wp2_with (first | ((with_reducible refine gate_store (t := 3) (p := 41) rfl ?_); refine store_event (t := 3) (p := 41) (v := ?vo_w29) (w1 := (wr.setCell ⟨go27, (x13_2 : Int).toNat, none⟩ (.int .i64 1099511627776))) ?hg ?ho ?hn ?hr ?_; (case ho => rfl); (case hg => rfl); (case hn => rfl); (case hr => first | (go_simp; done) | (go_simp; rfl)); intro w29 hw; have hg : wr.grownBy w29 (some go27) := (by rw [hw]; exact HP28.2); have hz_ : Kd.R (Kd.int .i64) 3 w29 w.heap.size oki28 (.slice (some ⟨go27, 0, none⟩) (rd_L4 x11_2 x12_1).length c280_0) y281 := (by rw [hw, Ny281.out]; exact HP28.1); have hp_ : Kd.S (Kd.slice 3 (Kd.int .i64)) 22 w29 w.heap.size (fun _ => True) (.slice (some ⟨go17, 0, none⟩) x11_2.length co17) y283 := (by rw [Ny283.out]; exact hbk28 hg (fun k_ e_ => by injection e_ with e_; subst e_; exact ge28_0.1 _ rfl) (Kd.M_row hz_)); have hm_ := Kd.R_mono hz_ hok28; clear HP28 hbk28; have n0_ := Aside0.mk (hp_); have n1_ := Aside0.mk ((by rw [hw]; exact below_set (HB.out) GB27.out : Below w.heap.size w w29)); have n2_ := Aside0.mk (hm_); have n3_ := Aside0.mk ((Kd.R_reads' hm_).2.1); clear HO_11; clear HB; clear HL280_0; have HO_11 := n0_; have HB := n1_; have HL303 := n2_; have HC282 := n3_; clear n0_ n1_ n2_ n3_; clear hg hw hp_ hz_ hm_ hok28))
        (try simp only [← hl11_2])
        go_roundg k2
        case measure => have := HK1.out; have := HK2.out; omega
        case rel => exact ⟨(y283), (wrap64 (x13_2 + 1)), (by first | rfl | (simp; done) | (simp [*]; done)), H', ⟨by have := HK1.out; have := HK2.out; omega⟩, ⟨by (try simp only [hl11_2]); (with_reducible repeat (first | apply Kd.S_alloc | apply Kd.S_drewN | apply Kd.S_drew)); exact HO_11.out⟩, ⟨by repeat (first | (with_reducible first | exact HB.out | apply below_alloc | apply pw_below_drewN | apply below_drew1) | exact HB.out)⟩⟩
       ·rw [if_neg c22] at H
        have c22b0 : decide (x13_2 ≤ a0) = false := decide_eq_false c22
        clear c22
        by_cases c30 : x12_1 = 0
        ·rw [if_pos c30] at H
         have c30b0 : (x12_1 == 0) = true := beq_iff_eq.mpr c30
         have c30b1 : (x12_1 != 0) = false := bne_eq_false_iff_eq.mpr c30
         clear c30
         by_cases c31 : 0 < (x11_2.length : Int)
         case neg => rw [if_neg c31] at H; exact absurd H (by simp)
         rw [if_pos c31] at H
         have c31b0 : decide (0 < (x11_2.length : Int)) = true := decide_eq_true c31
         have c31b0x := c31b0; (try simp only [hl11_2] at c31b0x)
         have c31b1 : decide (0 < x11_2.length) = true := decide_eq_true (by omega)
         have c31b1x := c31b1; (try simp only [hl11_2] at c31b1x)
         clear c31
         by_cases c32 : 0 ≤ a3
         case neg => rw [if_neg c32] at H; exact absurd H (by simp)
         rw [if_pos c32] at H
         have c32b0 : decide (0 ≤ a3) = true := decide_eq_true c32
         clear c32
         by_cases c33 : a3 < ((rd_L4 x11_2 0).length : Int)
         case neg => rw [if_neg c33] at H; exact absurd H (by simp)
         rw [if_pos c33] at H
         have c33b0 : decide (a3 < ((rd_L4 x11_2 0).length : Int)) = true := decide_eq_true c33
         have c33b0x := c33b0; (try simp only [hl11_2] at c33b0x)
         clear c33
         obtain ⟨y285, hy285⟩ : ∃ y_ : List Int, y_ = ((rd_L4 x11_2 0).set (a3 : Int).toNat 0) := ⟨_, rfl⟩
         replace H : (r14_back.l0 k2 a0 l1 a2 a3 a4 (x11_2.set (0 : Int).toNat y285) (wrap64 (x12_1 + 1))) = some r := by first | (rw [hy285]; with_reducible exact H) | (have H2_ := (Option.bind_some _ _).symm.trans H; rw [hy285]; with_reducible exact H2_) | (have H2_ := (Option.bind_some _ _).symm.trans H; with_reducible exact H2_) | with_reducible exact H | (rw [hy285]; exact H) | exact H
         have Ny285 := Aside0.mk hy285
         clear hy285
         obtain ⟨y287, hy287⟩ : ∃ y_ : List (List Int), y_ = (x11_2.set (0 : Int).toNat y285) := ⟨_, rfl⟩
         replace H : (r14_back.l0 k2 a0 l1 a2 a3 a4 y287 (wrap64 (x12_1 + 1))) = some r := by first | (rw [hy287]; with_reducible exact H) | (have H2_ := (Option.bind_some _ _).symm.trans H; rw [hy287]; with_reducible exact H2_) | (have H2_ := (Option.bind_some _ _).symm.trans H; with_reducible exact H2_) | with_reducible exact H | (rw [hy287]; exact H) | exact H
         have Ny287 := Aside0.mk hy287
         clear hy287
         have H' := Aside0.mk H
         clear H
         have p284 : 0 ≤ (0 : Int) := (by omega)
         have q284 : 0 < (x11_2.length : Int) := of_decide_eq_true (by first | (with_reducible assumption) | assumption)
         obtain ⟨ad284, A284_0, c284_0, e284, hx284_0, hl284_0, hi284_0⟩ := at_L4 (Kd.S_reads' HO_11.out).2.2 0 p284 q284
         obtain rfl : (⟨go17, 0, none⟩ : Addr) = ad284 := (by injection e284)
         obtain ⟨ce284, hce284, hMe284, hcc284⟩ := Kd.S_get HO_11.out [] 0 p284 (by first | exact q284 | exact of_decide_eq_true (by first | (with_reducible assumption) | assumption) | (have e_ := (Kd.S_reads' HO_11.out).1; omega))
         obtain ⟨ve284_0, rfl, ge284_0⟩ := hMe284
         have hv284_0 := hcc284 0 _ rfl
         rw [Nat.add_zero, show ((Kd.slice 3 (Kd.int .i64))).sz = 1 from rfl, Nat.mul_one] at hv284_0
         replace hv284_0 := Option.some.inj (hv284_0.symm.trans hx284_0)
         rw [hv284_0] at ge284_0
         have HL284_0 := Aside0.mk (show Kd.R (Kd.int .i64) 3 _ _ _ _ (rd_L4 x11_2 0) from ge284_0)
         clear hv284_0 ge284_0
         have HX284_0 := Aside0.mk hx284_0
         clear hcc284 hce284
         (first | simp only [add_plain] at hx284_0 | simp only [add_at] at hx284_0 | simp only [Addr.add, Nat.zero_add] at hx284_0 | skip)
         have qi284 : (0 < x11_2.length) = True := eq_true (by omega)
         (try rw [show ((0 : Int)).toNat = 0 from rfl] at hx284_0)
         (try rw [Addr.add_zero'] at hx284_0)
         have HR284_0 := Aside0.mk hi284_0
         have HC284_0 := Aside0.mk hl284_0
         clear hi284_0 hl284_0
         replace p284 := eq_true p284
         replace q284 := eq_true q284
         have p34 : 0 ≤ (a3 : Int) := of_decide_eq_true (by first | (with_reducible assumption) | assumption)
         have q34 : (a3 : Int) < (((rd_L4 x11_2 0).length : Int) : Int) := of_decide_eq_true (by first | (with_reducible assumption) | assumption)
         obtain ⟨go34, co34, eo34, gb34, gl34, cl34, HG34⟩ := Kd.R_form HL284_0.out (by omega)
         (first | cases eo34 | (injection eo34 with ea_ en_ ec_; (first | subst ea_ | (injection ea_ with ea_; subst ea_)); subst ec_; clear en_))
         have GB34 := Aside0.mk gb34
         have GG34 := Aside0.mk HG34
         clear gb34 gl34 HG34
         obtain ⟨hx34_0, hf34_0⟩ := Kd.R_celln 0 HL284_0.out (a3 : Int) p34 q34
         replace p34 := eq_true p34
         replace q34 := eq_true q34
         have hq35 : (0 : Int) < (x11_2.length : Int) := (by have h_ : (0 : Int) < ((x11_2.length : Int) : Int) := of_decide_eq_true (by first | (with_reducible assumption) | assumption); first | exact h_ | (have e_ := (Kd.S_reads' HO_11.out).1; omega) | simpa only [List.length_set, List.length_set] using h_)
         obtain ⟨oki35, ce35, hcl35, hM35, hcc35, hok35, hbk35⟩ := Kd.S_borrow HO_11.out [] (0 : Int) (by omega) hq35
         obtain ⟨ve35_0, rfl, ge35_0⟩ := hM35
         have hv35 := hcc35 0 _ rfl
         rw [Nat.add_zero, show ((Kd.slice 3 (Kd.int .i64))).sz = 1 from rfl, Nat.mul_one] at hv35
         replace hv35 := Option.some.inj (hv35.symm.trans HX284_0.out)
         subst hv35
         clear hcc35 hcl35
         replace ge35_0 := (show Kd.R (Kd.int .i64) 3 _ _ _ _ (rd_L4 x11_2 0) from ge35_0)
         have HP35 := Kd.R_putg ge35_0 (a3 : Int) 0
         go_wp2_with (first | ((with_reducible refine gate_store (t := 3) (p := 48) rfl ?_); refine store_event (t := 3) (p := 48) (v := ?vo_w36) (w1 := (wr.setCell ⟨go34, (a3 : Int).toNat, none⟩ (.int .i64 0))) ?hg ?ho ?hn ?hr ?_; (case ho => rfl); (case hg => rfl); (case hn => rfl); (case hr => first | (go_simp; done) | (go_simp; rfl)); intro w36 hw; have hg : wr.grownBy w36 (some go34) := (by rw [hw]; exact HP35.2); have hz_ : Kd.R (Kd.int .i64) 3 w36 w.heap.size oki35 (.slice (some ⟨go34, 0, none⟩) (rd_L4 x11_2 0).length c284_0) y285 := (by rw [hw, Ny285.out]; exact HP35.1); have hp_ : Kd.S (Kd.slice 3 (Kd.int .i64)) 22 w36 w.heap.size (fun _ => True) (.slice (some ⟨go17, 0, none⟩) x11_2.length co17) y287 := (by rw [Ny287.out]; exact hbk35 hg (fun k_ e_ => by injection e_ with e_; subst e_; exact ge35_0.1 _ rfl) (Kd.M_row hz_)); have hm_ := Kd.R_mono hz_ hok35; clear HP35 hbk35; have n0_ := Aside0.mk (hp_); have n1_ := Aside0.mk ((by rw [hw]; exact below_set (HB.out) GB34.out : Below w.heap.size w w36)); have n2_ := Aside0.mk (hm_); have n3_ := Aside0.mk ((Kd.R_reads' hm_).2.1); clear HO_11; clear HB; clear HL284_0; have HO_11 := n0_; have HB := n1_; have HL304 := n2_; have HC286 := n3_; clear n0_ n1_ n2_ n3_; clear hg hw hp_ hz_ hm_ hok35))
         (try simp only [← hl11_2])
         go_roundg k2
         case measure => have := HK1.out; have := HK2.out; omega
         case rel => exact ⟨(y287), (wrap64 (x12_1 + 1)), (by first | rfl | (simp; done) | (simp [*]; done)), H', ⟨by have := HK1.out; have := HK2.out; omega⟩, ⟨by (try simp only [hl11_2]); (with_reducible repeat (first | apply Kd.S_alloc | apply Kd.S_drewN | apply Kd.S_drew)); exact HO_11.out⟩, ⟨by repeat (first | (with_reducible first | exact HB.out | apply below_alloc | apply pw_below_drewN | apply below_drew1) | exact HB.out)⟩⟩
        ·rw [if_neg c30] at H
         have c30b0 : (x12_1 == 0) = false := beq_eq_false_iff_ne.mpr c30
         have c30b1 : (x12_1 != 0) = true := bne_iff_ne.mpr c30
         have H' := Aside0.mk H
         clear H
         go_wp2
         go_loopg [14] k2 (fun kq v14 w' => ∃ (x11_3 : List (List Int)) (x14_3 : Int), v14 = .int .i64 x14_3 ∧ Aside0 (r14_back.l2 kq a0 l1 a2 a3 a4 x11_3 x12_1 x14_3 = some r) ∧ Aside0 (kq ≤ k2) ∧ Aside0 (Kd.S (Kd.slice 3 (Kd.int .i64)) 22 w' w.heap.size (fun _ => True) (.slice (some ⟨go17, 0, none⟩) x11_2.length co17) x11_3) ∧ Aside0 (Below w.heap.size w w'))
         case atStart => exact ⟨(x11_2), (wrap64 (a2 + 1)), (by first | rfl | (simp; done) | (simp [*]; done)), H', ⟨Nat.le_refl _⟩, ⟨by (try simp only [hl11_2]); (with_reducible repeat (first | apply Kd.S_alloc | apply Kd.S_drewN | apply Kd.S_drew)); exact HO_11.out⟩, ⟨by repeat (first | (with_reducible first | exact HB.out | apply below_alloc | apply pw_below_drewN | apply below_drew1) | exact HB.out)⟩⟩
         case round =>
          clear H'
          try clear c1
          try clear p1
          try clear q1
          try clear hx1
          try clear c2
          try clear p2
          try clear q2
          try clear hx2
          try clear qi2
          try clear c3
          try clear p3
          try clear q3
          try clear hx3
          try clear p6
          try clear c7
          try clear c7b0
          try clear c7b1
          try clear c8
          try clear c8b0
          try clear c8b1
          try clear c11
          try clear c11b0
          try clear c13
          try clear c13b0
          try clear c13b1
          try clear c14
          try clear c14b0
          try clear c14b1
          try clear c15
          try clear c15b0
          try clear c16
          try clear c16b0
          try clear c17
          try clear p17
          try clear q17
          try clear hx17
          try clear hf17
          try clear c20
          try clear hx20
          try clear hf20
          try clear c22
          try clear c22b0
          try clear c23
          try clear c23b0
          try clear c24
          try clear c24b0
          try clear c25
          try clear c25b0
          try clear c26
          try clear c26b0
          try clear p27
          try clear q27
          try clear hx27
          try clear hf27
          try clear c28
          try clear p28
          try clear q28
          try clear hx28
          try clear qi28
          try clear c30
          try clear c30b0
          try clear c30b1
          try clear c31
          try clear c31b0
          try clear c31b1
          try clear c32
          try clear c32b0
          try clear c33
          try clear c33b0
          try clear p34
          try clear q34
          try clear hx34
          try clear hf34
          try clear c35
          try clear q35
          try clear hx17_0
          try clear hx20_0
          try clear hx27_0
          try clear hx280_0
          try clear hx284_0
          try clear hx34_0
          try clear p1
          try clear p17
          try clear p2
          try clear p27
          try clear p280
          try clear p284
          try clear p34
          try clear p6
          try clear q1
          try clear q17
          try clear q27
          try clear q280
          try clear q284
          try clear q34
          obtain ⟨x11_3, x14_3, rfl, HA, HK3, HO_11, HB⟩ := hrel
          have hl11_3 := (Kd.S_reads' HO_11.out).1
          rw [hl11_3] at HO_11
          (try simp only [hl11_3])
          cases gk with
          | zero => exact absurd HA.out (by simp [r14_back.l2])
          | succ k3 =>
           have H := HA.out
           clear HA
           simp only [r14_back.l2] at H
           by_cases c37 : x14_3 < (l1.length : Int)
           ·rw [if_pos c37] at H
            have c37b0 : decide (x14_3 < (l1.length : Int)) = true := decide_eq_true c37
            have c37b0x := c37b0; (try simp only [hl11_2] at c37b0x); (try simp only [hl11_3] at c37b0x)
            clear c37
            by_cases c38 : 0 ≤ x14_3
            case neg => rw [if_neg c38] at H; exact absurd H (by simp)
            rw [if_pos c38] at H
            have c38b0 : decide (0 ≤ x14_3) = true := decide_eq_true c38
            clear c38
            replace H := Option.bind_eq_some_iff.mp H
            obtain ⟨t289, A390, H⟩ := H
            replace H : ((r14_row.f a0 ((rd_T54 l1 x14_3).f1)).bind fun t291 => (if 0 ≤ (wrap64 (x12_1 - 1)) then (if (wrap64 (x12_1 - 1)) < (x11_3.length : Int) then (if 0 ≤ t291 then (if t291 < ((rd_L4 x11_3 (wrap64 (x12_1 - 1))).length : Int) then (if (rd (rd_L4 x11_3 (wrap64 (x12_1 - 1))) t291) < 1099511627776 then (if 0 ≤ x12_1 then (if x12_1 < (x11_3.length : Int) then (if 0 ≤ t289 then (if t289 < ((rd_L4 x11_3 x12_1).length : Int) then (r14_back.l2 k3 a0 l1 a2 a3 a4 (x11_3.set (x12_1 : Int).toNat ((rd_L4 x11_3 x12_1).set (t289 : Int).toNat (mn (rd (rd_L4 x11_3 x12_1) t289) (wrap64 (((rd_T54 l1 x14_3).f2) + (rd (rd_L4 x11_3 (wrap64 (x12_1 - 1))) t291)))))) x12_1 (wrap64 (x14_3 + 1))) else (none)) else (none)) else (none)) else (none)) else (r14_back.l2 k3 a0 l1 a2 a3 a4 x11_3 x12_1 (wrap64 (x14_3 + 1)))) else (none)) else (none)) else (none)) else (none))) = some r := H
            have A39 := Aside0.mk A390
            clear A390
            replace H := Option.bind_eq_some_iff.mp H
            obtain ⟨t291, A400, H⟩ := H
            replace H : (if 0 ≤ (wrap64 (x12_1 - 1)) then (if (wrap64 (x12_1 - 1)) < (x11_3.length : Int) then (if 0 ≤ t291 then (if t291 < ((rd_L4 x11_3 (wrap64 (x12_1 - 1))).length : Int) then (if (rd (rd_L4 x11_3 (wrap64 (x12_1 - 1))) t291) < 1099511627776 then (if 0 ≤ x12_1 then (if x12_1 < (x11_3.length : Int) then (if 0 ≤ t289 then (if t289 < ((rd_L4 x11_3 x12_1).length : Int) then (r14_back.l2 k3 a0 l1 a2 a3 a4 (x11_3.set (x12_1 : Int).toNat ((rd_L4 x11_3 x12_1).set (t289 : Int).toNat (mn (rd (rd_L4 x11_3 x12_1) t289) (wrap64 (((rd_T54 l1 x14_3).f2) + (rd (rd_L4 x11_3 (wrap64 (x12_1 - 1))) t291)))))) x12_1 (wrap64 (x14_3 + 1))) else (none)) else (none)) else (none)) else (none)) else (r14_back.l2 k3 a0 l1 a2 a3 a4 x11_3 x12_1 (wrap64 (x14_3 + 1)))) else (none)) else (none)) else (none)) else (none)) = some r := H
            have A40 := Aside0.mk A400
            clear A400
            obtain ⟨ji41, hji41⟩ : ∃ j_ : Int, (wrap64 (x12_1 - 1)) = j_ := ⟨_, rfl⟩
            replace H : (if 0 ≤ (ji41) then (if (ji41) < (x11_3.length : Int) then (if 0 ≤ t291 then (if t291 < ((rd_L4 x11_3 (ji41)).length : Int) then (if (rd (rd_L4 x11_3 (ji41)) t291) < 1099511627776 then (if 0 ≤ x12_1 then (if x12_1 < (x11_3.length : Int) then (if 0 ≤ t289 then (if t289 < ((rd_L4 x11_3 x12_1).length : Int) then (r14_back.l2 k3 a0 l1 a2 a3 a4 (x11_3.set (x12_1 : Int).toNat ((rd_L4 x11_3 x12_1).set (t289 : Int).toNat (mn (rd (rd_L4 x11_3 x12_1) t289) (wrap64 (((rd_T54 l1 x14_3).f2) + (rd (rd_L4 x11_3 (ji41)) t291)))))) x12_1 (wrap64 (x14_3 + 1))) else (none)) else (none)) else (none)) else (none)) else (r14_back.l2 k3 a0 l1 a2 a3 a4 x11_3 x12_1 (wrap64 (x14_3 + 1)))) else (none)) else (none)) else (none)) else (none)) = some r := by first | (rw [hji41] at H; exact H) | (simp only [hji41] at H ⊢; exact H)
            (try rw [hji41] at A39)
            (try rw [hji41] at A40)
            have hji41w : (IntKind.i64.wrap (x12_1 - 1)) = ji41 := (i64_w _).trans hji41
            by_cases c42 : 0 ≤ (ji41)
            case neg => rw [if_neg c42] at H; exact absurd H (by simp)
            rw [if_pos c42] at H
            have c42b0 : decide (0 ≤ (ji41)) = true := decide_eq_true c42
            clear c42
            by_cases c43 : (ji41) < (x11_3.length : Int)
            case neg => rw [if_neg c43] at H; exact absurd H (by simp)
            rw [if_pos c43] at H
            have c43b0 : decide ((ji41) < (x11_3.length : Int)) = true := decide_eq_true c43
            have c43b0x := c43b0; (try simp only [hl11_2] at c43b0x); (try simp only [hl11_3] at c43b0x)
            clear c43
            by_cases c44 : 0 ≤ t291
            case neg => rw [if_neg c44] at H; exact absurd H (by simp)
            rw [if_pos c44] at H
            have c44b0 : decide (0 ≤ t291) = true := decide_eq_true c44
            clear c44
            by_cases c45 : t291 < ((rd_L4 x11_3 (ji41)).length : Int)
            case neg => rw [if_neg c45] at H; exact absurd H (by simp)
            rw [if_pos c45] at H
            have c45b0 : decide (t291 < ((rd_L4 x11_3 (ji41)).length : Int)) = true := decide_eq_true c45
            have c45b0x := c45b0; (try simp only [hl11_2] at c45b0x); (try simp only [hl11_3] at c45b0x)
            clear c45
            by_cases c46 : (rd (rd_L4 x11_3 (ji41)) t291) < 1099511627776
            ·rw [if_pos c46] at H
             have c46b0 : decide ((rd (rd_L4 x11_3 (ji41)) t291) < 1099511627776) = true := decide_eq_true c46
             clear c46
             by_cases c47 : 0 ≤ x12_1
             case neg => rw [if_neg c47] at H; exact absurd H (by simp)
             rw [if_pos c47] at H
             have c47b0 : decide (0 ≤ x12_1) = true := decide_eq_true c47
             clear c47
             by_cases c48 : x12_1 < (x11_3.length : Int)
             case neg => rw [if_neg c48] at H; exact absurd H (by simp)
             rw [if_pos c48] at H
             have c48b0 : decide (x12_1 < (x11_3.length : Int)) = true := decide_eq_true c48
             have c48b0x := c48b0; (try simp only [hl11_2] at c48b0x); (try simp only [hl11_3] at c48b0x)
             clear c48
             by_cases c49 : 0 ≤ t289
             case neg => rw [if_neg c49] at H; exact absurd H (by simp)
             rw [if_pos c49] at H
             have c49b0 : decide (0 ≤ t289) = true := decide_eq_true c49
             clear c49
             by_cases c50 : t289 < ((rd_L4 x11_3 x12_1).length : Int)
             case neg => rw [if_neg c50] at H; exact absurd H (by simp)
             rw [if_pos c50] at H
             have c50b0 : decide (t289 < ((rd_L4 x11_3 x12_1).length : Int)) = true := decide_eq_true c50
             have c50b0x := c50b0; (try simp only [hl11_2] at c50b0x); (try simp only [hl11_3] at c50b0x)
             clear c50
             obtain ⟨ji51, hji51⟩ : ∃ j_ : Int, (mn (rd (rd_L4 x11_3 x12_1) t289) (wrap64 (((rd_T54 l1 x14_3).f2) + (rd (rd_L4 x11_3 (ji41)) t291)))) = j_ := ⟨_, rfl⟩
             replace H : (r14_back.l2 k3 a0 l1 a2 a3 a4 (x11_3.set (x12_1 : Int).toNat ((rd_L4 x11_3 x12_1).set (t289 : Int).toNat (ji51))) x12_1 (wrap64 (x14_3 + 1))) = some r := by first | (rw [hji51] at H; exact H) | (simp only [hji51] at H ⊢; exact H)
             (try rw [hji51] at A39)
             (try rw [hji51] at A40)
             have hji51_ : (if (wrap64 (((rd_T54 l1 x14_3).f2) + (rd (rd_L4 x11_3 (ji41)) t291))) < (rd (rd_L4 x11_3 x12_1) t289) then (wrap64 (((rd_T54 l1 x14_3).f2) + (rd (rd_L4 x11_3 (ji41)) t291))) else (rd (rd_L4 x11_3 x12_1) t289)) = ji51 := hji51
             obtain ⟨y300, hy300⟩ : ∃ y_ : List Int, y_ = ((rd_L4 x11_3 x12_1).set (t289 : Int).toNat (ji51)) := ⟨_, rfl⟩
             replace H : (r14_back.l2 k3 a0 l1 a2 a3 a4 (x11_3.set (x12_1 : Int).toNat y300) x12_1 (wrap64 (x14_3 + 1))) = some r := by first | (rw [hy300]; with_reducible exact H) | (have H2_ := (Option.bind_some _ _).symm.trans H; rw [hy300]; with_reducible exact H2_) | (have H2_ := (Option.bind_some _ _).symm.trans H; with_reducible exact H2_) | with_reducible exact H | (rw [hy300]; exact H) | exact H
             have Ny300 := Aside0.mk hy300
             clear hy300
             obtain ⟨y302, hy302⟩ : ∃ y_ : List (List Int), y_ = (x11_3.set (x12_1 : Int).toNat y300) := ⟨_, rfl⟩
             replace H : (r14_back.l2 k3 a0 l1 a2 a3 a4 y302 x12_1 (wrap64 (x14_3 + 1))) = some r := by first | (rw [hy302]; with_reducible exact H) | (have H2_ := (Option.bind_some _ _).symm.trans H; rw [hy302]; with_reducible exact H2_) | (have H2_ := (Option.bind_some _ _).symm.trans H; with_reducible exact H2_) | with_reducible exact H | (rw [hy302]; exact H) | exact H
             have Ny302 := Aside0.mk hy302
             clear hy302
             have H' := Aside0.mk H
             clear H
             have p288 : 0 ≤ (x14_3 : Int) := of_decide_eq_true (by first | (with_reducible assumption) | assumption)
             have q288 : x14_3 < (l1.length : Int) := of_decide_eq_true (by first | (with_reducible assumption) | assumption)
             obtain ⟨ad288, e288, hx288_0, hx288_1, hx288_2⟩ := at_T54 HR1.out x14_3 p288 q288
             cases e288
             replace hx288_0 := (HB.out.cell (World.block_lt_of_cell? w _ hx288_0)).trans hx288_0
             replace hx288_1 := (HB.out.cell (World.block_lt_of_cell? w _ hx288_1)).trans hx288_1
             replace hx288_2 := (HB.out.cell (World.block_lt_of_cell? w _ hx288_2)).trans hx288_2
             replace p288 := eq_true p288
             replace q288 := eq_true q288
             try go_wp2_with (first | ((with_reducible refine gate_callee (f := 34) rfl ?_); refine goesL_ (some 63) rfl rfl Try.func34 (by kernel_rfl) rfl #[.int .i64 a0, .int .i64 ((rd_T54 l1 x14_3).f0)] rfl (by (try simp only [List.map_toArray, List.map_cons, List.map_nil]); first | done | rfl | (simp only [List.length_drop, List.length_take]; rfl)) ?_; (with_reducible refine (r14_row.calls a0 ((rd_T54 l1 x14_3).f0) t289 _ A39.out).mono ?_); rintro e w' ⟨rfl, ⟨nd, rfl⟩⟩; refine ⟨_, rfl, ?_⟩; (try (rw [drewN_self wr]; generalize hq_ : World.drewN wr _ = wr; have n0_ : Aside0 (Kd.S (Kd.slice 3 (Kd.int .i64)) 22 wr w.heap.size (fun _ => True) (.slice (some ⟨go17, 0, none⟩) x11_3.length co17) x11_3) := ⟨by rw [← hq_]; exact (by (with_reducible repeat (first | apply Kd.S_alloc | apply Kd.S_drewN | apply Kd.S_drew)); exact HO_11.out)⟩; have n1_ : Aside0 (Below w.heap.size w wr) := ⟨by rw [← hq_]; exact (by repeat (first | (with_reducible first | exact HB.out | apply below_alloc | apply pw_below_drewN | apply below_drew1) | exact HB.out))⟩; clear HO_11 HB hq_; have HO_11 := n0_; have HB := n1_; clear n0_ n1_)); have p290 : 0 ≤ (x14_3 : Int) := of_decide_eq_true (by first | (with_reducible assumption) | assumption); have q290 : x14_3 < (l1.length : Int) := of_decide_eq_true (by first | (with_reducible assumption) | assumption); obtain ⟨ad290, e290, hx290_0, hx290_1, hx290_2⟩ := at_T54 HR1.out x14_3 p290 q290; obtain rfl : ad288 = ad290 := (by injection e290); replace hx290_0 := (HB.out.cell (World.block_lt_of_cell? w _ hx290_0)).trans hx290_0; replace hx290_1 := (HB.out.cell (World.block_lt_of_cell? w _ hx290_1)).trans hx290_1; replace hx290_2 := (HB.out.cell (World.block_lt_of_cell? w _ hx290_2)).trans hx290_2; replace p290 := eq_true p290; replace q290 := eq_true q290) | ((with_reducible refine gate_callee (f := 34) rfl ?_); refine goesL_ (some 70) rfl rfl Try.func34 (by kernel_rfl) rfl #[.int .i64 a0, .int .i64 ((rd_T54 l1 x14_3).f1)] rfl (by (try simp only [List.map_toArray, List.map_cons, List.map_nil]); first | done | rfl | (simp only [List.length_drop, List.length_take]; rfl)) ?_; (with_reducible refine (r14_row.calls a0 ((rd_T54 l1 x14_3).f1) t291 _ A40.out).mono ?_); rintro e w' ⟨rfl, ⟨nd, rfl⟩⟩; refine ⟨_, rfl, ?_⟩; (try (rw [drewN_self wr]; generalize hq_ : World.drewN wr _ = wr; have n0_ : Aside0 (Kd.S (Kd.slice 3 (Kd.int .i64)) 22 wr w.heap.size (fun _ => True) (.slice (some ⟨go17, 0, none⟩) x11_3.length co17) x11_3) := ⟨by rw [← hq_]; exact (by (with_reducible repeat (first | apply Kd.S_alloc | apply Kd.S_drewN | apply Kd.S_drew)); exact HO_11.out)⟩; have n1_ : Aside0 (Below w.heap.size w wr) := ⟨by rw [← hq_]; exact (by repeat (first | (with_reducible first | exact HB.out | apply below_alloc | apply pw_below_drewN | apply below_drew1) | exact HB.out))⟩; clear HO_11 HB hq_; have HO_11 := n0_; have HB := n1_; clear n0_ n1_)); have p292 : 0 ≤ ((ji41) : Int) := of_decide_eq_true (by first | (with_reducible assumption) | assumption); have q292 : (ji41) < (x11_3.length : Int) := of_decide_eq_true (by first | (with_reducible assumption) | assumption); obtain ⟨ad292, A292_0, c292_0, e292, hx292_0, hl292_0, hi292_0⟩ := at_L4 (Kd.S_reads' HO_11.out).2.2 (ji41) p292 q292; obtain rfl : (⟨go17, 0, none⟩ : Addr) = ad292 := (by injection e292); obtain ⟨ce292, hce292, hMe292, hcc292⟩ := Kd.S_get HO_11.out [] (ji41) p292 (by first | exact q292 | exact of_decide_eq_true (by first | (with_reducible assumption) | assumption) | (have e_ := (Kd.S_reads' HO_11.out).1; omega)); obtain ⟨ve292_0, rfl, ge292_0⟩ := hMe292; have hv292_0 := hcc292 0 _ rfl; rw [Nat.add_zero, show ((Kd.slice 3 (Kd.int .i64))).sz = 1 from rfl, Nat.mul_one] at hv292_0; replace hv292_0 := Option.some.inj (hv292_0.symm.trans hx292_0); rw [hv292_0] at ge292_0; have HL292_0 := Aside0.mk (show Kd.R (Kd.int .i64) 3 _ _ _ _ (rd_L4 x11_3 (ji41)) from ge292_0); clear hv292_0 ge292_0; have HX292_0 := Aside0.mk hx292_0; clear hcc292 hce292; (first | simp only [add_plain] at hx292_0 | simp only [add_at] at hx292_0 | simp only [Addr.add, Nat.zero_add] at hx292_0 | skip); have HR292_0 := Aside0.mk hi292_0; have HC292_0 := Aside0.mk hl292_0; clear hi292_0 hl292_0; replace p292 := eq_true p292; replace q292 := eq_true q292; have p293 : 0 ≤ (t291 : Int) := of_decide_eq_true (by first | (with_reducible assumption) | assumption); have q293 : t291 < ((rd_L4 x11_3 (ji41)).length : Int) := of_decide_eq_true (by first | (with_reducible assumption) | assumption); obtain ⟨ad293, e293, hx293_0⟩ := Kd.at_int (by repeat (first | (with_reducible exact HR292_0.out) | (with_reducible refine Kd.C_alloc ?_ _) | (with_reducible refine Kd.C_drewN ?_ _) | (with_reducible refine Kd.C_drew ?_) | exact HR292_0.out)) t291 p293 q293; cases e293; replace p293 := eq_true p293; replace q293 := eq_true q293))
             have n0_ := Aside0.mk (Kd.S_drew HO_11.out)
             have n1_ := Aside0.mk (Kd.R_drew HL292_0.out)
             have n2_ := Aside0.mk (Kd.C_drew HR292_0.out)
             have n3_ := Aside0.mk (below_drew1 HB.out)
             clear HO_11
             clear HL292_0
             clear HR292_0
             clear HB
             have HO_11 := n0_
             have HL292_0 := n1_
             have HR292_0 := n2_
             have HB := n3_
             clear n0_ n1_ n2_ n3_
             have p294 : 0 ≤ (x12_1 : Int) := of_decide_eq_true (by first | (with_reducible assumption) | assumption)
             have q294 : x12_1 < (x11_3.length : Int) := of_decide_eq_true (by first | (with_reducible assumption) | assumption)
             obtain ⟨ad294, A294_0, c294_0, e294, hx294_0, hl294_0, hi294_0⟩ := at_L4 (Kd.S_reads' HO_11.out).2.2 x12_1 p294 q294
             obtain rfl : (⟨go17, 0, none⟩ : Addr) = ad294 := (by injection e294)
             obtain ⟨ce294, hce294, hMe294, hcc294⟩ := Kd.S_get HO_11.out [] x12_1 p294 (by first | exact q294 | exact of_decide_eq_true (by first | (with_reducible assumption) | assumption) | (have e_ := (Kd.S_reads' HO_11.out).1; omega))
             obtain ⟨ve294_0, rfl, ge294_0⟩ := hMe294
             have hv294_0 := hcc294 0 _ rfl
             rw [Nat.add_zero, show ((Kd.slice 3 (Kd.int .i64))).sz = 1 from rfl, Nat.mul_one] at hv294_0
             replace hv294_0 := Option.some.inj (hv294_0.symm.trans hx294_0)
             rw [hv294_0] at ge294_0
             have HL294_0 := Aside0.mk (show Kd.R (Kd.int .i64) 3 _ _ _ _ (rd_L4 x11_3 x12_1) from ge294_0)
             clear hv294_0 ge294_0
             have HX294_0 := Aside0.mk hx294_0
             clear hcc294 hce294
             (first | simp only [add_plain] at hx294_0 | simp only [add_at] at hx294_0 | simp only [Addr.add, Nat.zero_add] at hx294_0 | skip)
             have HR294_0 := Aside0.mk hi294_0
             have HC294_0 := Aside0.mk hl294_0
             clear hi294_0 hl294_0
             replace p294 := eq_true p294
             replace q294 := eq_true q294
             have p295 : 0 ≤ (x12_1 : Int) := of_decide_eq_true (by first | (with_reducible assumption) | assumption)
             have q295 : x12_1 < (x11_3.length : Int) := of_decide_eq_true (by first | (with_reducible assumption) | assumption)
             obtain ⟨ad295, A295_0, c295_0, e295, hx295_0, hl295_0, hi295_0⟩ := at_L4 (Kd.S_reads' HO_11.out).2.2 x12_1 p295 q295
             obtain rfl : (⟨go17, 0, none⟩ : Addr) = ad295 := (by injection e295)
             obtain ⟨ce295, hce295, hMe295, hcc295⟩ := Kd.S_get HO_11.out [] x12_1 p295 (by first | exact q295 | exact of_decide_eq_true (by first | (with_reducible assumption) | assumption) | (have e_ := (Kd.S_reads' HO_11.out).1; omega))
             obtain ⟨ve295_0, rfl, ge295_0⟩ := hMe295
             have hv295_0 := hcc295 0 _ rfl
             rw [Nat.add_zero, show ((Kd.slice 3 (Kd.int .i64))).sz = 1 from rfl, Nat.mul_one] at hv295_0
             replace hv295_0 := Option.some.inj (hv295_0.symm.trans hx295_0)
             rw [hv295_0] at ge295_0
             have HL295_0 := Aside0.mk (show Kd.R (Kd.int .i64) 3 _ _ _ _ (rd_L4 x11_3 x12_1) from ge295_0)
             clear hv295_0 ge295_0
             have HX295_0 := Aside0.mk hx295_0
             clear hcc295 hce295
             (first | simp only [add_plain] at hx295_0 | simp only [add_at] at hx295_0 | simp only [Addr.add, Nat.zero_add] at hx295_0 | skip)
             have HR295_0 := Aside0.mk hi295_0
             have HC295_0 := Aside0.mk hl295_0
             clear hi295_0 hl295_0
             replace p295 := eq_true p295
             replace q295 := eq_true q295
             have ea_ := Option.some.inj (hx294_0.symm.trans hx295_0)
             injection ea_ with ea_ en_ ec_
             subst ea_
             subst ec_
             clear en_
             have p296 : 0 ≤ (t289 : Int) := of_decide_eq_true (by first | (with_reducible assumption) | assumption)
             have q296 : t289 < ((rd_L4 x11_3 x12_1).length : Int) := of_decide_eq_true (by first | (with_reducible assumption) | assumption)
             obtain ⟨ad296, e296, hx296_0⟩ := Kd.at_int (by repeat (first | (with_reducible exact HR295_0.out) | (with_reducible refine Kd.C_alloc ?_ _) | (with_reducible refine Kd.C_drewN ?_ _) | (with_reducible refine Kd.C_drew ?_) | exact HR295_0.out)) t289 p296 q296
             cases e296
             replace p296 := eq_true p296
             replace q296 := eq_true q296
             have p297 : 0 ≤ (x14_3 : Int) := of_decide_eq_true (by first | (with_reducible assumption) | assumption)
             have q297 : x14_3 < (l1.length : Int) := of_decide_eq_true (by first | (with_reducible assumption) | assumption)
             obtain ⟨ad297, e297, hx297_0, hx297_1, hx297_2⟩ := at_T54 HR1.out x14_3 p297 q297
             have hw297_2 := hx297_2
             have hw297_1 := hx297_1
             have hw297_0 := hx297_0
             obtain rfl : ad288 = ad297 := (by injection e297)
             replace hx297_0 := (HB.out.cell (World.block_lt_of_cell? w _ hx297_0)).trans hx297_0
             replace hx297_1 := (HB.out.cell (World.block_lt_of_cell? w _ hx297_1)).trans hx297_1
             replace hx297_2 := (HB.out.cell (World.block_lt_of_cell? w _ hx297_2)).trans hx297_2
             replace p297 := eq_true p297
             replace q297 := eq_true q297
             have p298 : 0 ≤ ((ji41) : Int) := of_decide_eq_true (by first | (with_reducible assumption) | assumption)
             have q298 : (ji41) < (x11_3.length : Int) := of_decide_eq_true (by first | (with_reducible assumption) | assumption)
             obtain ⟨ad298, A298_0, c298_0, e298, hx298_0, hl298_0, hi298_0⟩ := at_L4 (Kd.S_reads' HO_11.out).2.2 (ji41) p298 q298
             obtain rfl : (⟨go17, 0, none⟩ : Addr) = ad298 := (by injection e298)
             obtain ⟨ce298, hce298, hMe298, hcc298⟩ := Kd.S_get HO_11.out [] (ji41) p298 (by first | exact q298 | exact of_decide_eq_true (by first | (with_reducible assumption) | assumption) | (have e_ := (Kd.S_reads' HO_11.out).1; omega))
             obtain ⟨ve298_0, rfl, ge298_0⟩ := hMe298
             have hv298_0 := hcc298 0 _ rfl
             rw [Nat.add_zero, show ((Kd.slice 3 (Kd.int .i64))).sz = 1 from rfl, Nat.mul_one] at hv298_0
             replace hv298_0 := Option.some.inj (hv298_0.symm.trans hx298_0)
             rw [hv298_0] at ge298_0
             have HL298_0 := Aside0.mk (show Kd.R (Kd.int .i64) 3 _ _ _ _ (rd_L4 x11_3 (ji41)) from ge298_0)
             clear hv298_0 ge298_0
             have HX298_0 := Aside0.mk hx298_0
             clear hcc298 hce298
             (first | simp only [add_plain] at hx298_0 | simp only [add_at] at hx298_0 | simp only [Addr.add, Nat.zero_add] at hx298_0 | skip)
             have HR298_0 := Aside0.mk hi298_0
             have HC298_0 := Aside0.mk hl298_0
             clear hi298_0 hl298_0
             replace p298 := eq_true p298
             replace q298 := eq_true q298
             have p299 : 0 ≤ (t291 : Int) := of_decide_eq_true (by first | (with_reducible assumption) | assumption)
             have q299 : t291 < ((rd_L4 x11_3 (ji41)).length : Int) := of_decide_eq_true (by first | (with_reducible assumption) | assumption)
             obtain ⟨ad299, e299, hx299_0⟩ := Kd.at_int (by repeat (first | (with_reducible exact HR298_0.out) | (with_reducible refine Kd.C_alloc ?_ _) | (with_reducible refine Kd.C_drewN ?_ _) | (with_reducible refine Kd.C_drew ?_) | exact HR298_0.out)) t291 p299 q299
             cases e299
             replace p299 := eq_true p299
             replace q299 := eq_true q299
             have p52 : 0 ≤ (t289 : Int) := of_decide_eq_true (by first | (with_reducible assumption) | assumption)
             have q52 : (t289 : Int) < (((rd_L4 x11_3 x12_1).length : Int) : Int) := of_decide_eq_true (by first | (with_reducible assumption) | assumption)
             obtain ⟨go52, co52, eo52, gb52, gl52, cl52, HG52⟩ := Kd.R_form HL294_0.out (by omega)
             (first | cases eo52 | (injection eo52 with ea_ en_ ec_; (first | subst ea_ | (injection ea_ with ea_; subst ea_)); subst ec_; clear en_))
             have GB52 := Aside0.mk gb52
             have GG52 := Aside0.mk HG52
             clear gb52 gl52 HG52
             (first | simp only [add_plain] at hx296_0 | skip)
             obtain ⟨hx52_0, hf52_0⟩ := Kd.R_celln 0 HL294_0.out (t289 : Int) p52 q52
             replace p52 := eq_true p52
             replace q52 := eq_true q52
             have hq54 : (x12_1 : Int) < (x11_3.length : Int) := (by have h_ : (x12_1 : Int) < ((x11_3.length : Int) : Int) := of_decide_eq_true (by first | (with_reducible assumption) | assumption); first | exact h_ | (have e_ := (Kd.S_reads' HO_11.out).1; omega) | simpa only [List.length_set, List.length_set] using h_)
             obtain ⟨oki54, ce54, hcl54, hM54, hcc54, hok54, hbk54⟩ := Kd.S_borrow HO_11.out [] (x12_1 : Int) (of_decide_eq_true (by first | (with_reducible assumption) | assumption)) hq54
             obtain ⟨ve54_0, rfl, ge54_0⟩ := hM54
             have hv54 := hcc54 0 _ rfl
             rw [Nat.add_zero, show ((Kd.slice 3 (Kd.int .i64))).sz = 1 from rfl, Nat.mul_one] at hv54
             replace hv54 := Option.some.inj (hv54.symm.trans HX294_0.out)
             subst hv54
             clear hcc54 hcl54
             replace ge54_0 := (show Kd.R (Kd.int .i64) 3 _ _ _ _ (rd_L4 x11_3 x12_1) from ge54_0)
             have HP54 := Kd.R_putg ge54_0 (t289 : Int) ji51
             rw [← Ny300.out] at HP54
             have HS54 := hbk54 HP54.2 (fun k_ e_ => by injection e_ with e_; subst e_; exact ge54_0.1 _ rfl) (x' := y300) (Kd.M_row HP54.1)
             rw [← Ny302.out] at HS54
             have HQ54 := Aside0.mk HS54
             clear HP54 HS54 hbk54 hok54
             (first | simp only [add_plain] at hx296_0 | skip)
             refine start_ (n := 29) (S := fun w' => w'.cell? ⟨go17, (x12_1).toNat, none⟩ = some (.slice (some ⟨go52, 0, none⟩) (rd_L4 x11_3 x12_1).length c294_0) ∧ w'.cell? ⟨go17, (x12_1).toNat, none⟩ = some (.slice (some ⟨go52, 0, none⟩) (rd_L4 x11_3 x12_1).length c294_0) ∧ w'.cell? ⟨go52, (t289).toNat, none⟩ = some (.int .i64 (rd (rd_L4 x11_3 x12_1) t289)) ∧ w'.cell? (ad288.add ((x14_3).toNat * 3)) = some (.int .i64 ((rd_T54 l1 x14_3).f0)) ∧ w'.cell? ⟨(ad288.add ((x14_3).toNat * 3)).block, (ad288.add ((x14_3).toNat * 3)).off + 1, none⟩ = some (.int .i64 ((rd_T54 l1 x14_3).f1)) ∧ w'.cell? ⟨(ad288.add ((x14_3).toNat * 3)).block, (ad288.add ((x14_3).toNat * 3)).off + 2, none⟩ = some (.int .i64 ((rd_T54 l1 x14_3).f2)) ∧ w'.cell? ⟨go17, ((ji41)).toNat, none⟩ = some (.slice (some ad299) (rd_L4 x11_3 (ji41)).length c298_0) ∧ w'.cell? (ad299.add (t291).toNat) = some (.int .i64 (rd (rd_L4 x11_3 (ji41)) t291))) (ds := [28]) #[false, false, false, false, false, false, false, false, false, false, false, false, false, false, false, false, false, false, false, false, false, false, false, false, false, false, false, false, false] (by kernel_rfl) rfl rfl ⟨hx294_0, hx295_0, hx296_0, ((HB.out.cell (World.block_lt_of_cell? w _ hw297_0)).trans hw297_0), ((HB.out.cell (World.block_lt_of_cell? w _ hw297_1)).trans hw297_1), ((HB.out.cell (World.block_lt_of_cell? w _ hw297_2)).trans hw297_2), hx298_0, hx299_0⟩ (fun hHeld => ?_); refine with_tabW r14_back.tab18 r14_back.bits18 (fun HT_ HW_ => ?_)
             generalize wr.drew = w53 at HO_11 HL292_0 HR292_0 HB GG52 HL294_0 HL295_0 HL298_0 HQ54 HR294_0 HR295_0 HR298_0 HX294_0 HX295_0 HX298_0 hf52_0 hx294_0 hx295_0 hx296_0 hx297_0 hx297_1 hx297_2 hx298_0 hx299_0 hx52_0 hHeld ⊢
             refine pS_ 0 (some 80) rfl rfl HT_.out (by kernel_rfl) ?_ (fun _ _ _ h => h) (by rfl) ?_ ?_ ?_ ?_
             rotate_left
             ·intro w'
              go_simp
              with_reducible rfl
             rotate_left
             ·simp only [Act.put, spA]
              rfl
             refine pS_ 1 (some 81) rfl rfl HT_.out (by kernel_rfl) ?_ (fun _ _ _ h => h) (by rfl) ?_ ?_ ?_ ?_
             rotate_left
             ·intro w'
              go_simp
              with_reducible rfl
             rotate_left
             ·simp only [Act.put, spA]
              rfl
             refine pS_ 2 (some 82) rfl rfl HT_.out (by kernel_rfl) ?_ (fun _ _ _ h => h) (by rfl) ?_ ?_ ?_ ?_
             rotate_left
             ·intro w'
              go_simp
              with_reducible rfl
             rotate_left
             ·simp only [Act.put, spA]
              rfl
             refine pS_ 4 (some 84) rfl rfl HT_.out (by kernel_rfl) ?_ (fun _ _ _ h => h) (by rfl) ?_ ?_ ?_ ?_
             rotate_left
             ·intro w'
              go_simp
              with_reducible rfl
             rotate_left
             ·simp only [Act.put, spA]
              rfl
             refine pS_ 5 (some 85) rfl rfl HT_.out (by kernel_rfl) ?_ (fun _ _ _ h => h) (by rfl) ?_ ?_ ?_ ?_
             rotate_left
             ·intro w'
              go_simp
              with_reducible rfl
             rotate_left
             ·simp only [Act.put, spA]
              rfl
             refine pS_ 6 (some 86) rfl rfl HT_.out (by kernel_rfl) ?_ (fun _ _ _ h => h) (by rfl) ?_ ?_ ?_ ?_
             rotate_left
             ·intro w'
              go_simp
              with_reducible rfl
             rotate_left
             ·simp only [Act.put, spA]
              rfl
             refine pS_ 7 (some 87) rfl rfl HT_.out (by kernel_rfl) ?_ (fun _ _ _ h => h) (by rfl) ?_ ?_ ?_ ?_
             rotate_left
             ·intro w'
              go_simp
              with_reducible rfl
             rotate_left
             ·simp only [Act.put, spA]
              rfl
             refine pS_ 9 (some 89) rfl rfl HT_.out (by kernel_rfl) ?_ (fun _ _ _ h => h) (by rfl) ?_ ?_ ?_ ?_
             rotate_left
             ·intro w'
              go_simp
              with_reducible rfl
             rotate_left
             ·simp only [Act.put, spA]
              rfl
             refine pS_ 12 (some 92) rfl rfl HT_.out (by kernel_rfl) ?_ (fun _ _ _ h => h) (by rfl) ?_ ?_ ?_ ?_
             rotate_left
             ·intro w'
              go_simp
              with_reducible rfl
             rotate_left
             ·simp only [Act.put, spA]
              rfl
             refine pS_ 13 (some 93) rfl rfl HT_.out (by kernel_rfl) ?_ (fun _ _ _ h => h) (by rfl) ?_ ?_ ?_ ?_
             rotate_left
             ·intro w'
              go_simp
              with_reducible rfl
             rotate_left
             ·simp only [Act.put, spA]
              rfl
             refine pS_ 14 (some 94) rfl rfl HT_.out (by kernel_rfl) ?_ (fun _ _ _ h => h) (by rfl) ?_ ?_ ?_ ?_
             rotate_left
             ·intro w'
              go_simp
              with_reducible rfl
             rotate_left
             ·simp only [Act.put, spA]
              rfl
             refine pS_ 15 (some 95) rfl rfl HT_.out (by kernel_rfl) ?_ (fun _ _ _ h => h) (by rfl) ?_ ?_ ?_ ?_
             rotate_left
             ·intro w'
              go_simp
              with_reducible rfl
             rotate_left
             ·simp only [Act.put, spA]
              rfl
             refine pS_ 17 (some 97) rfl rfl HT_.out (by kernel_rfl) ?_ (fun _ _ _ h => h) (by rfl) ?_ ?_ ?_ ?_
             rotate_left
             ·intro w'
              go_simp
              with_reducible rfl
             rotate_left
             ·simp only [Act.put, spA]
              rfl
             refine pS_ 18 (some 98) rfl rfl HT_.out (by kernel_rfl) ?_ (fun _ _ _ h => h) (by rfl) ?_ ?_ ?_ ?_
             rotate_left
             ·intro w'
              go_simp
              with_reducible rfl
             rotate_left
             ·simp only [Act.put, spA]
              rfl
             refine pS_ 19 (some 99) rfl rfl HT_.out (by kernel_rfl) ?_ (fun _ _ _ h => h) (by rfl) ?_ ?_ ?_ ?_
             rotate_left
             ·intro w'
              go_simp
              with_reducible rfl
             rotate_left
             ·simp only [Act.put, spA]
              rfl
             refine pS_ 20 (some 100) rfl rfl HT_.out (by kernel_rfl) ?_ (fun _ _ _ h => h) (by rfl) ?_ ?_ ?_ ?_
             rotate_left
             ·intro w'
              go_simp
              with_reducible rfl
             rotate_left
             ·simp only [Act.put, spA]
              rfl
             refine pS_ 22 (some 102) rfl rfl HT_.out (by kernel_rfl) ?_ (fun _ _ _ h => h) (by rfl) ?_ ?_ ?_ ?_
             rotate_left
             ·intro w'
              go_simp
              with_reducible rfl
             rotate_left
             ·simp only [Act.put, spA]
              rfl
             refine take_ (i := 3) (N := some 83) (v := ?_) (a' := ?_) #[true, true, true, true, true, true, true, true, false, true, false, false, true, true, true, true, false, true, true, true, true, false, true, false, false, false, false, false, false] rfl rfl (take_ofW HT_.out HW_.out (by kernel_rfl)) (fun _ _ _ h => h) (Or.inl ⟨by rfl, ?_⟩) hHeld ?_ ?_
             rotate_left
             ·rintro w' ⟨s0, s1, s2, s3, s4, s5, s6, s7⟩
              go_simp
              with_reducible rfl
             rotate_left
             ·simp only [Act.put, spA]
              rfl
             refine take_ (i := 8) (N := some 88) (v := ?_) (a' := ?_) #[true, true, true, true, true, true, true, true, true, true, false, false, true, true, true, true, false, true, true, true, true, false, true, false, false, false, false, false, false] rfl rfl (take_ofW HT_.out HW_.out (by kernel_rfl)) (fun _ _ _ h => h) (Or.inl ⟨by rfl, ?_⟩) hHeld ?_ ?_
             rotate_left
             ·rintro w' ⟨s0, s1, s2, s3, s4, s5, s6, s7⟩
              go_simp
              with_reducible rfl
             rotate_left
             ·simp only [Act.put, spA]
              rfl
             refine pS_ 10 (some 90) rfl rfl HT_.out (by kernel_rfl) ?_ (fun _ _ _ h => h) (by rfl) ?_ ?_ ?_ ?_
             rotate_left
             ·intro w'
              go_simp
              with_reducible rfl
             rotate_left
             ·simp only [Act.put, spA]
              rfl
             refine take_ (i := 11) (N := some 91) (v := ?_) (a' := ?_) #[true, true, true, true, true, true, true, true, true, true, true, true, true, true, true, true, false, true, true, true, true, false, true, false, false, false, false, false, false] rfl rfl (take_ofW HT_.out HW_.out (by kernel_rfl)) (fun _ _ _ h => h) (Or.inl ⟨by rfl, ?_⟩) hHeld ?_ ?_
             rotate_left
             ·rintro w' ⟨s0, s1, s2, s3, s4, s5, s6, s7⟩
              go_simp
              with_reducible rfl
             rotate_left
             ·simp only [Act.put, spA]
              rfl
             refine take_ (i := 16) (N := some 96) (v := ?_) (a' := ?_) #[true, true, true, true, true, true, true, true, true, true, true, true, true, true, true, true, true, true, true, true, true, false, true, false, false, false, false, false, false] rfl rfl (take_ofW HT_.out HW_.out (by kernel_rfl)) (fun _ _ _ h => h) (Or.inl ⟨by rfl, ?_⟩) hHeld ?_ ?_
             rotate_left
             ·rintro w' ⟨s0, s1, s2, s3, s4, s5, s6, s7⟩
              go_simp
              with_reducible rfl
             rotate_left
             ·simp only [Act.put, spA]
              rfl
             refine take_ (i := 21) (N := some 101) (v := ?_) (a' := ?_) #[true, true, true, true, true, true, true, true, true, true, true, true, true, true, true, true, true, true, true, true, true, true, true, false, false, false, false, false, false] rfl rfl (take_ofW HT_.out HW_.out (by kernel_rfl)) (fun _ _ _ h => h) (Or.inl ⟨by rfl, ?_⟩) hHeld ?_ ?_
             rotate_left
             ·rintro w' ⟨s0, s1, s2, s3, s4, s5, s6, s7⟩
              go_simp
              with_reducible rfl
             rotate_left
             ·simp only [Act.put, spA]
              rfl
             refine pS_ 23 (some 103) rfl rfl HT_.out (by kernel_rfl) ?_ (fun _ _ _ h => h) (by rfl) ?_ ?_ ?_ ?_
             rotate_left
             ·intro w'
              go_simp
              with_reducible rfl
             rotate_left
             ·simp only [Act.put, spA]
              rfl
             refine take_ (i := 24) (N := some 104) (v := ?_) (a' := ?_) #[true, true, true, true, true, true, true, true, true, true, true, true, true, true, true, true, true, true, true, true, true, true, true, true, true, false, false, false, false] rfl rfl (take_ofW HT_.out HW_.out (by kernel_rfl)) (fun _ _ _ h => h) (Or.inl ⟨by rfl, ?_⟩) hHeld ?_ ?_
             rotate_left
             ·rintro w' ⟨s0, s1, s2, s3, s4, s5, s6, s7⟩
              go_simp
              with_reducible rfl
             rotate_left
             ·simp only [Act.put, spA]
              rfl
             refine pS_ 25 (some 105) rfl rfl HT_.out (by kernel_rfl) ?_ (fun _ _ _ h => h) (by rfl) ?_ ?_ ?_ ?_
             rotate_left
             ·intro w'
              go_simp
              with_reducible rfl
             rotate_left
             ·simp only [Act.put, spA]
              rfl
             refine pS_ 26 (some 106) rfl rfl HT_.out (by kernel_rfl) ?_ (fun _ _ _ h => h) (by rfl) ?_ ?_ ?_ ?_
             rotate_left
             ·intro w'
              go_simp
              with_reducible rfl
             rotate_left
             ·simp only [Act.put, spA]
              rfl
             refine pS_ 27 (some 107) rfl rfl HT_.out (by kernel_rfl) ?_ (fun _ _ _ h => h) (by rfl) ?_ ?_ ?_ ?_
             rotate_left
             ·intro w'
              go_simp
              with_reducible rfl
             rotate_left
             ·simp only [Act.put, spA]
              rfl
             refine last_ (i := 28) (N := none) #[true, true, true, true, true, true, true, true, true, true, true, true, true, true, true, true, true, true, true, true, true, true, true, true, true, true, true, true, true] rfl rfl (one_of HT_.out (by kernel_rfl)) (by decide) (fun K hK => ?_)
             refine skip_ (w1 := ?_) (by rfl) rfl ?_ ?_
             rotate_left
             ·go_simp
              rfl
             refine hK.out _ _ ?_
             clear hK K
             refine done_ (done_of HT_.out (by kernel_rfl)) ?_
             try go_wp2
             (try simp only [← hl11_3])
             go_roundg k3
             case measure => have := HK1.out; have := HK2.out; have := HK3.out; omega
             case rel => exact ⟨(y302), (wrap64 (x14_3 + 1)), (by first | rfl | (simp; done) | (simp [*]; done)), H', ⟨by have := HK1.out; have := HK2.out; have := HK3.out; omega⟩, ⟨by (try simp only [hl11_2]); (try simp only [hl11_3]); (with_reducible repeat (first | apply Kd.S_alloc | apply Kd.S_drewN | apply Kd.S_drew)); exact HQ54.out⟩, ⟨by repeat (first | (with_reducible first | exact HB.out | apply below_alloc | apply pw_below_drewN | apply below_drew1 | refine below_set ?_ GB52.out) | exact HB.out)⟩⟩
            ·rw [if_neg c46] at H
             have c46b0 : decide ((rd (rd_L4 x11_3 (ji41)) t291) < 1099511627776) = false := decide_eq_false c46
             clear c46
             have H' := Aside0.mk H
             clear H
             have p288 : 0 ≤ (x14_3 : Int) := of_decide_eq_true (by first | (with_reducible assumption) | assumption)
             have q288 : x14_3 < (l1.length : Int) := of_decide_eq_true (by first | (with_reducible assumption) | assumption)
             obtain ⟨ad288, e288, hx288_0, hx288_1, hx288_2⟩ := at_T54 HR1.out x14_3 p288 q288
             cases e288
             replace hx288_0 := (HB.out.cell (World.block_lt_of_cell? w _ hx288_0)).trans hx288_0
             replace hx288_1 := (HB.out.cell (World.block_lt_of_cell? w _ hx288_1)).trans hx288_1
             replace hx288_2 := (HB.out.cell (World.block_lt_of_cell? w _ hx288_2)).trans hx288_2
             replace p288 := eq_true p288
             replace q288 := eq_true q288
             go_wp2_with (first | ((with_reducible refine gate_callee (f := 34) rfl ?_); refine goesL_ (some 63) rfl rfl Try.func34 (by kernel_rfl) rfl #[.int .i64 a0, .int .i64 ((rd_T54 l1 x14_3).f0)] rfl (by (try simp only [List.map_toArray, List.map_cons, List.map_nil]); first | done | rfl | (simp only [List.length_drop, List.length_take]; rfl)) ?_; (with_reducible refine (r14_row.calls a0 ((rd_T54 l1 x14_3).f0) t289 _ A39.out).mono ?_); rintro e w' ⟨rfl, ⟨nd, rfl⟩⟩; refine ⟨_, rfl, ?_⟩; have p290 : 0 ≤ (x14_3 : Int) := of_decide_eq_true (by first | (with_reducible assumption) | assumption); have q290 : x14_3 < (l1.length : Int) := of_decide_eq_true (by first | (with_reducible assumption) | assumption); obtain ⟨ad290, e290, hx290_0, hx290_1, hx290_2⟩ := at_T54 HR1.out x14_3 p290 q290; obtain rfl : ad288 = ad290 := (by injection e290); replace hx290_0 := (HB.out.cell (World.block_lt_of_cell? w _ hx290_0)).trans hx290_0; replace hx290_1 := (HB.out.cell (World.block_lt_of_cell? w _ hx290_1)).trans hx290_1; replace hx290_2 := (HB.out.cell (World.block_lt_of_cell? w _ hx290_2)).trans hx290_2; replace p290 := eq_true p290; replace q290 := eq_true q290) | ((with_reducible refine gate_callee (f := 34) rfl ?_); refine goesL_ (some 70) rfl rfl Try.func34 (by kernel_rfl) rfl #[.int .i64 a0, .int .i64 ((rd_T54 l1 x14_3).f1)] rfl (by (try simp only [List.map_toArray, List.map_cons, List.map_nil]); first | done | rfl | (simp only [List.length_drop, List.length_take]; rfl)) ?_; (with_reducible refine (r14_row.calls a0 ((rd_T54 l1 x14_3).f1) t291 _ A40.out).mono ?_); rintro e w' ⟨rfl, ⟨nd, rfl⟩⟩; refine ⟨_, rfl, ?_⟩; have p292 : 0 ≤ ((ji41) : Int) := of_decide_eq_true (by first | (with_reducible assumption) | assumption); have q292 : (ji41) < (x11_3.length : Int) := of_decide_eq_true (by first | (with_reducible assumption) | assumption); obtain ⟨ad292, A292_0, c292_0, e292, hx292_0, hl292_0, hi292_0⟩ := at_L4 (Kd.S_reads' HO_11.out).2.2 (ji41) p292 q292; obtain rfl : (⟨go17, 0, none⟩ : Addr) = ad292 := (by injection e292); obtain ⟨ce292, hce292, hMe292, hcc292⟩ := Kd.S_get HO_11.out [] (ji41) p292 (by first | exact q292 | exact of_decide_eq_true (by first | (with_reducible assumption) | assumption) | (have e_ := (Kd.S_reads' HO_11.out).1; omega)); obtain ⟨ve292_0, rfl, ge292_0⟩ := hMe292; have hv292_0 := hcc292 0 _ rfl; rw [Nat.add_zero, show ((Kd.slice 3 (Kd.int .i64))).sz = 1 from rfl, Nat.mul_one] at hv292_0; replace hv292_0 := Option.some.inj (hv292_0.symm.trans hx292_0); rw [hv292_0] at ge292_0; have HL292_0 := Aside0.mk (show Kd.R (Kd.int .i64) 3 _ _ _ _ (rd_L4 x11_3 (ji41)) from ge292_0); clear hv292_0 ge292_0; have HX292_0 := Aside0.mk hx292_0; clear hcc292 hce292; (first | simp only [add_plain] at hx292_0 | simp only [add_at] at hx292_0 | simp only [Addr.add, Nat.zero_add] at hx292_0 | skip); have HR292_0 := Aside0.mk hi292_0; have HC292_0 := Aside0.mk hl292_0; clear hi292_0 hl292_0; replace p292 := eq_true p292; replace q292 := eq_true q292; have p293 : 0 ≤ (t291 : Int) := of_decide_eq_true (by first | (with_reducible assumption) | assumption); have q293 : t291 < ((rd_L4 x11_3 (ji41)).length : Int) := of_decide_eq_true (by first | (with_reducible assumption) | assumption); obtain ⟨ad293, e293, hx293_0⟩ := Kd.at_int (by repeat (first | (with_reducible exact HR292_0.out) | (with_reducible refine Kd.C_alloc ?_ _) | (with_reducible refine Kd.C_drewN ?_ _) | (with_reducible refine Kd.C_drew ?_) | exact HR292_0.out)) t291 p293 q293; cases e293; replace p293 := eq_true p293; replace q293 := eq_true q293))
             (try simp only [← hl11_3])
             go_roundg k3
             case measure => have := HK1.out; have := HK2.out; have := HK3.out; omega
             case rel => exact ⟨(x11_3), (wrap64 (x14_3 + 1)), (by first | rfl | (simp; done) | (simp [*]; done)), H', ⟨by have := HK1.out; have := HK2.out; have := HK3.out; omega⟩, ⟨by (try simp only [hl11_2]); (try simp only [hl11_3]); (with_reducible repeat (first | apply Kd.S_alloc | apply Kd.S_drewN | apply Kd.S_drew)); exact HO_11.out⟩, ⟨by repeat (first | (with_reducible first | exact HB.out | apply below_alloc | apply pw_below_drewN | apply below_drew1) | exact HB.out)⟩⟩
           ·rw [if_neg c37] at H
            have c37b0 : decide (x14_3 < (l1.length : Int)) = false := decide_eq_false c37
            have c37b0x := c37b0; (try simp only [hl11_2] at c37b0x); (try simp only [hl11_3] at c37b0x)
            clear c37
            have H' := Aside0.mk H
            clear H
            go_wp2
            (try simp only [← hl11_2, ← hl11_3])
            go_roundg k3
            case measure => have := HK1.out; have := HK2.out; have := HK3.out; omega
            case rel => exact ⟨(x11_3), (wrap64 (x12_1 + 1)), (by first | rfl | (simp; done) | (simp [*]; done)), H', ⟨by have := HK1.out; have := HK2.out; have := HK3.out; omega⟩, ⟨by (try simp only [hl11_2]); (try simp only [hl11_3]); (with_reducible repeat (first | apply Kd.S_alloc | apply Kd.S_drewN | apply Kd.S_drew)); exact HO_11.out⟩, ⟨by repeat (first | (with_reducible first | exact HB.out | apply below_alloc | apply pw_below_drewN | apply below_drew1) | exact HB.out)⟩⟩
    ·rw [if_neg c11] at H
     have c11b0 : decide (x12_1 ≤ a4) = false := decide_eq_false c11
     clear c11
     obtain rfl := Option.some.inj H
     go_wp2
     go_ret
     exact ⟨_, by first | rfl | (simp [errW_none, errW_some] <;> rfl) | (simp only [← hji6]; first | rfl | (simp [errW_none, errW_some] <;> rfl)) | (simp [*, errW_none, errW_some] <;> rfl), by (with_reducible repeat (first | apply Kd.S_alloc | apply Kd.S_drewN | apply Kd.S_drew)); exact HO_11.out, by repeat (first | (with_reducible first | exact HB.out | apply below_alloc | apply pw_below_drewN | apply below_drew1) | exact HB.out)⟩
 ·rw [if_neg c7] at H
  exact absurd H (by simp)

end Go.Proofs.Ytcnkjcbjlopkmaa.Q
