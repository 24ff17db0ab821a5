-- Written out of the translation by a program of this session (wip/tools/myprint.py, over the kit's print). Lean checks it.
import Derived.Test.YtcnkjcbjlopkmaaSp
import Derived.Test.YtcnkjcbjlopkmaaCyc
import Derived.Test.YtcnkjcbjlopkmaaHid
import Derived.Test.YtcnkjcbjlopkmaaSh
import Derived.Test.YtcnkjcbjlopkmaaQ0
import Derived.Test.YtcnkjcbjlopkmaaQ1
import Derived.Test.YtcnkjcbjlopkmaaQ2
import Derived.Test.YtcnkjcbjlopkmaaQ5
import Derived.Test.YtcnkjcbjlopkmaaQ7
import Derived.Test.YtcnkjcbjlopkmaaQ10
import Derived.Test.YtcnkjcbjlopkmaaQ11
import Derived.Test.YtcnkjcbjlopkmaaQ12
namespace Go.Proofs.Ytcnkjcbjlopkmaa.Q
open Go.RowKit Go.Proofs.YtcnkjcbjlopkmaaW.PrintWords Go.Proofs.YtcnkjcbjlopkmaaW.PrintLast Go.Proofs.YtcnkjcbjlopkmaaW.PrintMore
attribute [local go_sem] max2_int min2_int max_two min_two max_three min_three max_four min_four   -- for this text's walks alone
set_option linter.unusedVariables false
set_option linter.unusedSimpArgs false

theorem gV {α : Type} {d : Kd α} {e base : Nat} {W W' : World} {ok : Nat → Prop} {v : Value} {xs : List α} [g : Grows W W'] (h : d.V e W base ok v xs) : d.V e W' base ok v xs := Kd.V_below h g.h
/-! ### l14_BoundsCloses: function 3 -/
mutual
def l14_BoundsCloses.l0 : Nat → List (List (S54)) → List Int → Int → Option (Bool)
 | 0, _, _, _ => none
 | k + 1, x14, x15, x16 => if x16 < (x14.length : Int) then (l14_BoundsCloses.l1 k x14 x15 x16 0) else ((l14_lives.f k).bind fun t427 => (some t427))
def l14_BoundsCloses.l1 : Nat → List (List (S54)) → List Int → Int → Int → Option (Bool)
 | 0, _, _, _, _ => none
 | k + 1, x14, x15, x16, x17 => if x17 < 3 then (if 0 ≤ x17 then (if x17 < (x15.length : Int) then (if 0 ≤ x16 then (if x16 < (x14.length : Int) then ((l14_own.f k (rd_L7 x14 x16)).bind fun t430 => ((bounds_Close.f k (rd x15 x17) t430).bind fun bt433 => ((r14_Close.f k (rd x15 x17) (rd_L7 x14 x16)).bind fun bt439 => ((l14_own.f k (rd_L7 x14 x16)).bind fun t445 => ((bounds_Cycle.f (rd x15 x17) t445).bind fun bt448 => ((r14_Cycle.f k (rd x15 x17) (rd_L7 x14 x16)).bind fun bt454 => (if bt433.2 = bt439.2 then (if bt448.2 = bt454.2 then ((r14_SameTables.f k bt433.1 bt439.1).bind fun t458 => (if t458 = true then ((r01_SameInts.f k bt448.1 bt454.1).bind fun t459 => (if t459 = true then (l14_BoundsCloses.l1 k x14 x15 x16 (wrap64 (x17 + 1))) else (some false))) else (some false))) else (some false)) else (some false)))))))) else (none)) else (none)) else (none)) else (none)) else (l14_BoundsCloses.l0 k x14 x15 (wrap64 (x16 + 1)))
end
def l14_BoundsCloses.f (k : Nat) (l0 : List Int) (a1 : Int) (a2 : Int) (a3 : Int) (a4 : Int) : Option (Bool) := (r14_Made.f k l0).bind fun bt410 => ((r14_Bent.f k bt410.2 a1 a2 a3).bind fun t414 => ((r14_Bent.f k t414 a3 (wrap64 (Int.tdiv a2 6)) a1).bind fun t417 => ((r01_Around.f a4 13).bind fun t423 => (l14_BoundsCloses.l0 k (([bt410.2, t414, t417, []] : List (List (S54)))) (([bt410.1, wrap64 (t423 - 1), a4] : List Int)) 0))))
theorem l14_BoundsCloses.mono_l : ∀ k, (∀ y0 y1 y2, LeO (l14_BoundsCloses.l0 k y0 y1 y2) (l14_BoundsCloses.l0 (k + 1) y0 y1 y2)) ∧ (∀ y0 y1 y2 y3, LeO (l14_BoundsCloses.l1 k y0 y1 y2 y3) (l14_BoundsCloses.l1 (k + 1) y0 y1 y2 y3))
 | 0 => ⟨fun _ _ _ r h => by simp [l14_BoundsCloses.l0] at h, fun _ _ _ _ r h => by simp [l14_BoundsCloses.l1] at h⟩
 | k + 1 => by
  obtain ⟨ih0, ih1⟩ := l14_BoundsCloses.mono_l k
  refine ⟨?_, ?_⟩
  ·intro y0 y1 y2
   unfold l14_BoundsCloses.l0
   repeat' first
   | (with_reducible exact ih0 _ _ _)
   | (with_reducible exact ih1 _ _ _ _)
   | (with_reducible exact bounds_Close.mono _ _ _)
   | (with_reducible exact l14_lives.mono _)
   | (with_reducible exact l14_own.mono _ _)
   | (with_reducible exact r01_SameInts.mono _ _ _)
   | (with_reducible exact r14_Bent.mono _ _ _ _ _)
   | (with_reducible exact r14_Close.mono _ _ _)
   | (with_reducible exact r14_Cycle.mono _ _ _)
   | (with_reducible exact r14_Made.mono _ _)
   | (with_reducible exact r14_SameTables.mono _ _ _)
   | (with_reducible exact LeO.refl _)
   | (with_reducible exact LeO.none _)
   | (with_reducible refine LeO.ite ?_ ?_)
   | (with_reducible refine LeO.bind ?_ (fun _ => ?_))
   | exact bounds_Close.mono _ _ _
   | exact l14_lives.mono _
   | exact l14_own.mono _ _
   | exact r01_SameInts.mono _ _ _
   | exact r14_Bent.mono _ _ _ _ _
   | exact r14_Close.mono _ _ _
   | exact r14_Cycle.mono _ _ _
   | exact r14_Made.mono _ _
   | exact r14_SameTables.mono _ _ _
   | exact LeO.none _
   | refine LeO.ite ?_ ?_
   | refine LeO.bind ?_ (fun _ => ?_)
  ·intro y0 y1 y2 y3
   unfold l14_BoundsCloses.l1
   repeat' first
   | (with_reducible exact ih0 _ _ _)
   | (with_reducible exact ih1 _ _ _ _)
   | (with_reducible exact bounds_Close.mono _ _ _)
   | (with_reducible exact l14_lives.mono _)
   | (with_reducible exact l14_own.mono _ _)
   | (with_reducible exact r01_SameInts.mono _ _ _)
   | (with_reducible exact r14_Bent.mono _ _ _ _ _)
   | (with_reducible exact r14_Close.mono _ _ _)
   | (with_reducible exact r14_Cycle.mono _ _ _)
   | (with_reducible exact r14_Made.mono _ _)
   | (with_reducible exact r14_SameTables.mono _ _ _)
   | (with_reducible exact LeO.refl _)
   | (with_reducible exact LeO.none _)
   | (with_reducible refine LeO.ite ?_ ?_)
   | (with_reducible refine LeO.bind ?_ (fun _ => ?_))
   | exact bounds_Close.mono _ _ _
   | exact l14_lives.mono _
   | exact l14_own.mono _ _
   | exact r01_SameInts.mono _ _ _
   | exact r14_Bent.mono _ _ _ _ _
   | exact r14_Close.mono _ _ _
   | exact r14_Cycle.mono _ _ _
   | exact r14_Made.mono _ _
   | exact r14_SameTables.mono _ _ _
   | exact LeO.none _
   | refine LeO.ite ?_ ?_
   | refine LeO.bind ?_ (fun _ => ?_)
theorem l14_BoundsCloses.mono : ∀ a0 a1 a2 a3 a4 k, LeO (l14_BoundsCloses.f k a0 a1 a2 a3 a4) (l14_BoundsCloses.f (k + 1) a0 a1 a2 a3 a4) := by
 intro a0 a1 a2 a3 a4 k
 obtain ⟨ih0, ih1⟩ := l14_BoundsCloses.mono_l k
 unfold l14_BoundsCloses.f
 repeat' first
   | (with_reducible exact ih0 _ _ _)
   | (with_reducible exact ih1 _ _ _ _)
   | (with_reducible exact bounds_Close.mono _ _ _)
   | (with_reducible exact l14_lives.mono _)
   | (with_reducible exact l14_own.mono _ _)
   | (with_reducible exact r01_SameInts.mono _ _ _)
   | (with_reducible exact r14_Bent.mono _ _ _ _ _)
   | (with_reducible exact r14_Close.mono _ _ _)
   | (with_reducible exact r14_Cycle.mono _ _ _)
   | (with_reducible exact r14_Made.mono _ _)
   | (with_reducible exact r14_SameTables.mono _ _ _)
   | (with_reducible exact LeO.refl _)
   | (with_reducible exact LeO.none _)
   | (with_reducible refine LeO.ite ?_ ?_)
   | (with_reducible refine LeO.bind ?_ (fun _ => ?_))
   | exact bounds_Close.mono _ _ _
   | exact l14_lives.mono _
   | exact l14_own.mono _ _
   | exact r01_SameInts.mono _ _ _
   | exact r14_Bent.mono _ _ _ _ _
   | exact r14_Close.mono _ _ _
   | exact r14_Cycle.mono _ _ _
   | exact r14_Made.mono _ _
   | exact r14_SameTables.mono _ _ _
   | exact LeO.none _
   | refine LeO.ite ?_ ?_
   | refine LeO.bind ?_ (fun _ => ?_)
def l14_BoundsCloses.T11 : Bool × List (List Nat × List Nat) := (true, [([], []), ([], []), ([0, 1], [0, 1]), ([2], [2]), ([], []), ([], []), ([4, 5], [4, 5]), ([6], [6]), ([7], [7]), ([3, 8, 8], [3, 8]), ([9], [9]), ([10], [10]), ([10], [10]), ([11, 9, 0, 1, 2, 3, 4, 5, 6, 7, 8, 9, 10, 11], [11]), ([12, 13, 0, 1, 2, 3, 4, 5, 6, 7, 8, 9, 10, 11, 12, 13], [12])])
def l14_BoundsCloses.B11 : List Nat := [0, 0, 3, 7, 0, 0, 48, 112, 240, 511, 1023, 2047, 2047, 4095, 16383]
theorem l14_BoundsCloses.tab11 : rtab .any (opsOf Try.f3 11) = l14_BoundsCloses.T11 := by kernel_rfl
theorem l14_BoundsCloses.bits11 : waitsOk l14_BoundsCloses.T11.2 l14_BoundsCloses.B11 = true := by kernel_rfl
def l14_BoundsCloses.T12 : Bool × List (List Nat × List Nat) := (true, [([], []), ([], []), ([0, 1], [0, 1]), ([2], [2]), ([], []), ([], []), ([4, 5], [4, 5]), ([6], [6]), ([3, 7], [3, 7]), ([8], [8]), ([9], [9]), ([9], [9]), ([10, 8, 0, 1, 2, 3, 4, 5, 6, 7, 8, 9, 10], [10]), ([11, 12, 0, 1, 2, 3, 4, 5, 6, 7, 8, 9, 10, 11, 12], [11])])
def l14_BoundsCloses.B12 : List Nat := [0, 0, 3, 7, 0, 0, 48, 112, 255, 511, 1023, 1023, 2047, 8191]
theorem l14_BoundsCloses.tab12 : rtab .any (opsOf Try.f3 12) = l14_BoundsCloses.T12 := by kernel_rfl
theorem l14_BoundsCloses.bits12 : waitsOk l14_BoundsCloses.T12.2 l14_BoundsCloses.B12 = true := by kernel_rfl
def l14_BoundsCloses.T13 : Bool × List (List Nat × List Nat) := (true, [([], []), ([], []), ([0, 1], [0, 1]), ([2], [2]), ([], []), ([], []), ([4, 5], [4, 5]), ([6], [6]), ([7], [7]), ([3, 8, 8], [3, 8]), ([9], [9]), ([10], [10]), ([10], [10]), ([11, 9, 0, 1, 2, 3, 4, 5, 6, 7, 8, 9, 10, 11], [11]), ([12, 13, 0, 1, 2, 3, 4, 5, 6, 7, 8, 9, 10, 11, 12, 13], [12])])
def l14_BoundsCloses.B13 : List Nat := [0, 0, 3, 7, 0, 0, 48, 112, 240, 511, 1023, 2047, 2047, 4095, 16383]
theorem l14_BoundsCloses.tab13 : rtab .any (opsOf Try.f3 13) = l14_BoundsCloses.T13 := by kernel_rfl
theorem l14_BoundsCloses.bits13 : waitsOk l14_BoundsCloses.T13.2 l14_BoundsCloses.B13 = true := by kernel_rfl
def l14_BoundsCloses.T14 : Bool × List (List Nat × List Nat) := (true, [([], []), ([], []), ([0, 1], [0, 1]), ([2], [2]), ([], []), ([], []), ([4, 5], [4, 5]), ([6], [6]), ([3, 7], [3, 7]), ([8], [8]), ([9], [9]), ([9], [9]), ([10, 8, 0, 1, 2, 3, 4, 5, 6, 7, 8, 9, 10], [10]), ([11, 12, 0, 1, 2, 3, 4, 5, 6, 7, 8, 9, 10, 11, 12], [11])])
def l14_BoundsCloses.B14 : List Nat := [0, 0, 3, 7, 0, 0, 48, 112, 255, 511, 1023, 1023, 2047, 8191]
theorem l14_BoundsCloses.tab14 : rtab .any (opsOf Try.f3 14) = l14_BoundsCloses.T14 := by kernel_rfl
theorem l14_BoundsCloses.bits14 : waitsOk l14_BoundsCloses.T14.2 l14_BoundsCloses.B14 = true := by kernel_rfl
set_option maxHeartbeats 8000000 in
set_option maxRecDepth 100000 in
theorem l14_BoundsCloses.calls (k : Nat) (A0 : Option Addr) (c0 : Nat) (l0 : List Int) (a1 : Int) (a2 : Int) (a3 : Int) (a4 : Int) (r : Bool) (w : World) (hr0 : Kd.C (Kd.int .i64) w A0 l0.length l0) (hc0 : l0.length ≤ c0) (h : l14_BoundsCloses.f k l0 a1 a2 a3 a4 = some r) (ht : r = true) :
  Calls Try.prog 3 #[.slice A0 l0.length c0, .int .i64 a1, .int .i64 a2, .int .i64 a3, .int .i64 a4] w fun e w' => e = .returned (.bool r) ∧ Below w.heap.size w w' := by
 have HT := Aside0.mk ht
 clear ht
 have HR0 := Aside0.mk hr0
 have HC0 := Aside0.mk hc0
 clear hr0 hc0
 have HB := Aside0.mk (Below.refl w.heap.size w)
 have H : ((r14_Made.f k l0).bind fun bt410 => ((r14_Bent.f k bt410.2 a1 a2 a3).bind fun t414 => ((r14_Bent.f k t414 a3 (wrap64 (Int.tdiv a2 6)) a1).bind fun t417 => ((r01_Around.f a4 13).bind fun t423 => (l14_BoundsCloses.l0 k (([bt410.2, t414, t417, []] : List (List (S54)))) (([bt410.1, wrap64 (t423 - 1), a4] : List Int)) 0))))) = some r := h
 clear h
 replace H := Option.bind_eq_some_iff.mp H
 obtain ⟨⟨t410, t411⟩, A60, H⟩ := H
 replace H : ((r14_Bent.f k t411 a1 a2 a3).bind fun t414 => ((r14_Bent.f k t414 a3 (wrap64 (Int.tdiv a2 6)) a1).bind fun t417 => ((r01_Around.f a4 13).bind fun t423 => (l14_BoundsCloses.l0 k (([t411, t414, t417, []] : List (List (S54)))) (([t410, wrap64 (t423 - 1), a4] : List Int)) 0)))) = some r := H
 have A6 := Aside0.mk A60
 clear A60
 replace H := Option.bind_eq_some_iff.mp H
 obtain ⟨t414, A70, H⟩ := H
 replace H : ((r14_Bent.f k t414 a3 (wrap64 (Int.tdiv a2 6)) a1).bind fun t417 => ((r01_Around.f a4 13).bind fun t423 => (l14_BoundsCloses.l0 k (([t411, t414, t417, []] : List (List (S54)))) (([t410, wrap64 (t423 - 1), a4] : List Int)) 0))) = some r := H
 have A7 := Aside0.mk A70
 clear A70
 replace H := Option.bind_eq_some_iff.mp H
 obtain ⟨t417, A80, H⟩ := H
 replace H : ((r01_Around.f a4 13).bind fun t423 => (l14_BoundsCloses.l0 k (([t411, t414, t417, []] : List (List (S54)))) (([t410, wrap64 (t423 - 1), a4] : List Int)) 0)) = some r := H
 have A8 := Aside0.mk A80
 clear A80
 obtain ⟨y420, hy420⟩ : ∃ y_ : List (List (S54)), y_ = (([t411, t414, t417, []] : List (List (S54)))) := ⟨_, rfl⟩
 replace H : ((r01_Around.f a4 13).bind fun t423 => (l14_BoundsCloses.l0 k y420 (([t410, wrap64 (t423 - 1), a4] : List Int)) 0)) = some r := by first | (rw [hy420]; with_reducible exact H) | (have H2_ := (Option.bind_some _ _).symm.trans H; rw [hy420]; with_reducible exact H2_) | (have H2_ := (Option.bind_some _ _).symm.trans H; with_reducible exact H2_) | with_reducible exact H | (rw [hy420]; exact H) | exact H
 have Ny420 := Aside0.mk hy420
 clear hy420
 replace H := Option.bind_eq_some_iff.mp H
 obtain ⟨t423, A90, H⟩ := H
 replace H : (l14_BoundsCloses.l0 k y420 (([t410, wrap64 (t423 - 1), a4] : List Int)) 0) = some r := H
 have A9 := Aside0.mk A90
 clear A90
 obtain ⟨y424, hy424⟩ : ∃ y_ : List Int, y_ = (([t410, wrap64 (t423 - 1), a4] : List Int)) := ⟨_, rfl⟩
 replace H : (l14_BoundsCloses.l0 k y420 y424 0) = some r := by first | (rw [hy424]; with_reducible exact H) | (have H2_ := (Option.bind_some _ _).symm.trans H; rw [hy424]; with_reducible exact H2_) | (have H2_ := (Option.bind_some _ _).symm.trans H; with_reducible exact H2_) | with_reducible exact H | (rw [hy424]; exact H) | exact H
 have Ny424 := Aside0.mk hy424
 clear hy424
 have H' := Aside0.mk H
 clear H
 go_enter Try.func3, Try.ntmps3
 go_wp2_with (first | ((with_reducible refine gate_callee (f := 9) rfl ?_); refine goesL_ (some 28) rfl rfl Try.func9 (by kernel_rfl) rfl #[.slice A0 l0.length c0] rfl (by (try simp only [List.map_toArray, List.map_cons, List.map_nil]); first | done | rfl | (simp only [List.length_drop, List.length_take]; rfl)) ?_; (with_reducible refine (r14_Made.calls k _ _ l0 t410 t411 _ ?side1 ?side2 A6.out).mono ?_); (case side1 => exact gC (HR0.out)); (case side2 => exact HC0.out); rintro e w10 ⟨v412, rfl, ho0, hb⟩; refine ⟨_, rfl, ?_⟩; have n0_ := Aside0.mk (Kd.R_lower ho0 (below_size (bl HB.out))); have n1_ := Aside0.mk (below_step (bl HB.out) hb); clear HB; have HO413 := n0_; have HB := n1_; clear n0_ n1_; (try clear hb); (try clear hb2); (try clear hk); (try clear hi); (try clear ho0); obtain ⟨Ao11, co11, eo11⟩ := Kd.R_slice HO413.out; subst eo11) | ((with_reducible refine gate_callee (f := 10) rfl ?_); refine goesL_ (some 35) rfl rfl Try.func10 (by kernel_rfl) rfl #[.slice Ao11 t411.length co11, .int .i64 a1, .int .i64 a2, .int .i64 a3] rfl (by (try simp only [List.map_toArray, List.map_cons, List.map_nil]); first | done | rfl | (simp only [List.length_drop, List.length_take]; rfl)) ?_; (with_reducible refine (r14_Bent.calls k _ _ t411 a1 a2 a3 t414 _ ?side1 ?side2 A7.out).mono ?_); (case side1 => exact gC ((Kd.R_reads' HO413.out).2.2)); (case side2 => exact (Kd.R_reads' HO413.out).2.1); rintro e w12 ⟨v415, rfl, ho0, hb⟩; refine ⟨_, rfl, ?_⟩; have n0_ := Aside0.mk (Kd.R_elder' (gR (HO413.out)) (Kd.R_base ho0) hb); have n1_ := Aside0.mk (Kd.R_lower (Kd.R_new' ho0 (Kd.R_lt (gR (HO413.out)))) (below_size (bl HB.out))); have n2_ := Aside0.mk (below_step (bl HB.out) hb); clear HO413; clear HB; have HO413 := n0_; have HO416 := n1_; have HB := n2_; clear n0_ n1_ n2_; (try clear hb); (try clear hb2); (try clear hk); (try clear hi); (try clear ho0); obtain ⟨Ao13, co13, eo13⟩ := Kd.R_slice HO416.out; subst eo13) | ((with_reducible refine gate_callee (f := 10) rfl ?_); refine goesL_ (some 43) rfl rfl Try.func10 (by kernel_rfl) rfl #[.slice Ao13 t414.length co13, .int .i64 a3, .int .i64 (wrap64 (Int.tdiv a2 6)), .int .i64 a1] rfl (by (try simp only [List.map_toArray, List.map_cons, List.map_nil]); first | done | rfl | (simp only [List.length_drop, List.length_take]; rfl)) ?_; (with_reducible refine (r14_Bent.calls k _ _ t414 a3 (wrap64 (Int.tdiv a2 6)) a1 t417 _ ?side1 ?side2 A8.out).mono ?_); (case side1 => exact gC ((Kd.R_reads' HO416.out).2.2)); (case side2 => exact (Kd.R_reads' HO416.out).2.1); rintro e w14 ⟨v418, rfl, ho0, hb⟩; refine ⟨_, rfl, ?_⟩; have n0_ := Aside0.mk (Kd.R_elder' (gR (HO413.out)) (Kd.R_base ho0) hb); have n1_ := Aside0.mk (Kd.R_elder' (gR (HO416.out)) (Kd.R_base ho0) hb); have n2_ := Aside0.mk (Kd.R_lower (Kd.R_new' (Kd.R_new' ho0 (Kd.R_lt (gR (HO413.out)))) (Kd.R_lt (gR (HO416.out)))) (below_size (bl HB.out))); have n3_ := Aside0.mk (below_step (bl HB.out) hb); clear HO413; clear HO416; clear HB; have HO413 := n0_; have HO416 := n1_; have HO419 := n2_; have HB := n3_; clear n0_ n1_ n2_ n3_; (try clear hb); (try clear hb2); (try clear hk); (try clear hi); (try clear ho0); obtain ⟨Ao15, co15, eo15⟩ := Kd.R_slice HO419.out; subst eo15) | ((with_reducible refine gate_dst (N := 44) rfl ?_); refine Kd.N_lit (Kd.slice 54 k54) _ 23 ?hg (N' := 44) ?hd (xs := ([t411, t414, t417, []] : List (List (S54)))) (inner := [.slice Ao11 t411.length co11, .slice Ao13 t414.length co13, .slice Ao15 t417.length co15, .slice none 0 0]) (ok := (fun _ => True)) (okp := (fun _ => True)) ?hr ?hp (fun _ hk => hk) ((show ∀ k_, w14.heap.size ≤ k_ → (fun _ => True) k_ from fun k_ hk => trivial) _ (Nat.le_refl _)) (Below.refl _ _) (Nat.le_refl _) (by simp) ?_; (case hd => rfl); (case hg => rfl); (case hr => first | (go_simp; done) | (go_simp; rfl)); (case hp => exact (Reps.one (show Kd.FK (Kd.slice 54 k54) _ _ t411 [.slice Ao11 t411.length co11] from (Kd.FK_slice_mk (Kd.R_reads' (Kd.R_mono (ok' := (fun _ => True)) (HO413.out) (fun k_ hk => trivial))).2.1 (Kd.R_F (Kd.R_mono (ok' := (fun _ => True)) (HO413.out) (fun k_ hk => trivial))))) (Reps.one (show Kd.FK (Kd.slice 54 k54) _ _ t414 [.slice Ao13 t414.length co13] from (Kd.FK_slice_mk (Kd.R_reads' (Kd.R_mono (ok' := (fun _ => True)) (HO416.out) (fun k_ hk => trivial))).2.1 (Kd.R_F (Kd.R_mono (ok' := (fun _ => True)) (HO416.out) (fun k_ hk => trivial))))) (Reps.one (show Kd.FK (Kd.slice 54 k54) _ _ t417 [.slice Ao15 t417.length co15] from (Kd.FK_slice_mk (Kd.R_reads' (Kd.R_mono (ok' := (fun _ => True)) (HO419.out) (fun k_ hk => trivial))).2.1 (Kd.R_F (Kd.R_mono (ok' := (fun _ => True)) (HO419.out) (fun k_ hk => trivial))))) (Reps.one (show Kd.FK (Kd.slice 54 k54) _ _ [] [.slice none 0 0] from (Kd.FK_slice_mk (Nat.le_refl _) (Kd.F_nil _ _ _))) (Reps.none _ _)))))); intro v421 w16 ho17 hb hg_ hnew_; clear hg_ hnew_; (first | rw [← Ny420.out] at ho17 | (simp only [Int.reduceToNat] at ho17; rw [← Ny420.out] at ho17)); have n0_ := Aside0.mk (Kd.N_lower ho17 (below_size (bl HB.out))); have n1_ := Aside0.mk (below_step (bl HB.out) hb); clear HB; clear HO413; clear HO416; clear HO419; have HO422 := n0_; have HB := n1_; clear n0_ n1_; clear hb ho17) | ((with_reducible refine gate_callee (f := 11) rfl ?_); refine goesL_ (some 47) rfl rfl Try.func11 (by kernel_rfl) rfl #[.int .i64 a4, .int .i64 13] rfl (by (try simp only [List.map_toArray, List.map_cons, List.map_nil]); first | done | rfl | (simp only [List.length_drop, List.length_take]; rfl)) ?_; (with_reducible refine (r01_Around.calls a4 13 t423 _ A9.out).mono ?_); rintro e w' ⟨rfl, ⟨nd, rfl⟩⟩; refine ⟨_, rfl, ?_⟩) | ((with_reducible refine gate_dst (N := 50) rfl ?_); refine Kd.R_lit (Kd.int .i64) _ 3 ?hg (N := 50) ?hd (xs := ([t410, wrap64 (t423 - 1), a4] : List Int)) (inner := [.int .i64 t410, .int .i64 (wrap64 (t423 - 1)), .int .i64 a4]) (ok := fun _ => True) (okp := fun _ => True) ?hr ?hp (fun _ hk => hk) trivial (Below.refl _ _) (Nat.le_refl _) (by simp) ?_; (case hd => rfl); (case hg => rfl); (case hr => first | (go_simp; done) | (go_simp; rfl)); (case hp => exact (Reps.one (show Kd.M (Kd.int .i64) _ _ _ t410 [.int .i64 t410] from rfl) (Reps.one (show Kd.M (Kd.int .i64) _ _ _ (wrap64 (t423 - 1)) [.int .i64 (wrap64 (t423 - 1))] from rfl) (Reps.one (show Kd.M (Kd.int .i64) _ _ _ a4 [.int .i64 a4] from rfl) (Reps.none _ _))))); intro v425 w18 ho19 hb hg_ hnew_; clear hg_ hnew_; (first | rw [← Ny424.out] at ho19 | (simp only [Int.reduceToNat] at ho19; rw [← Ny424.out] at ho19)); have n0_ := Aside0.mk (Kd.N_elder' (gN (HO422.out)) (Kd.R_base ho19) hb); have n1_ := Aside0.mk (Kd.R_lower ho19 (below_size (bl HB.out))); have n2_ := Aside0.mk (below_step (bl HB.out) hb); clear HO422; clear HB; have HO422 := n0_; have HO426 := n1_; have HB := n2_; clear n0_ n1_ n2_; clear hb ho19))
 go_loopg [16] k (fun kq v16 w' => ∃ (x16_1 : Int), v16 = .int .i64 x16_1 ∧ Aside0 (l14_BoundsCloses.l0 kq y420 y424 x16_1 = some r) ∧ Aside0 (kq ≤ k) ∧ Aside0 (Kd.N (Kd.slice 54 k54) 23 w' w.heap.size (fun k_ => some k_ ≠ (v425 : Value).ownBlock) v421 y420) ∧ Aside0 (Kd.R (Kd.int .i64) 3 w' w.heap.size (fun _ => True) v425 y424) ∧ Aside0 (Below w.heap.size w w'))
 case atStart => exact ⟨(0), (by first | rfl | (simp; done) | (simp [*]; done)), H', ⟨Nat.le_refl _⟩, ⟨gN (Kd.N_mono HO422.out (fun _ hk => hk.2))⟩, ⟨gR (HO426.out)⟩, ⟨bl HB.out⟩⟩
 case round =>
  clear H'
  try clear c1
  try clear p2
  try clear c3
  try clear p6
  try clear c9
  try clear c10
  try clear c11
  obtain ⟨x16_1, rfl, HA, HK1, HO_14, HO_15, HB⟩ := hrel
  cases gk with
  | zero => exact absurd HA.out (by simp [l14_BoundsCloses.l0])
  | succ k1 =>
   have H := HA.out
   clear HA
   simp only [l14_BoundsCloses.l0] at H
   by_cases c20 : x16_1 < (y420.length : Int)
   ·rw [if_pos c20] at H
    have c20b0 : decide (x16_1 < (y420.length : Int)) = true := decide_eq_true c20
    clear c20
    have H' := Aside0.mk H
    clear H
    obtain ⟨Ao21, co21, eo21⟩ := Kd.N_slice HO_14.out
    subst eo21
    go_wp2
    go_loopg [17] k1 (fun kq v17 w' => ∃ (x17_2 : Int), v17 = .int .i64 x17_2 ∧ Aside0 (l14_BoundsCloses.l1 kq y420 y424 x16_1 x17_2 = some r) ∧ Aside0 (kq ≤ k1) ∧ Aside0 (Kd.N (Kd.slice 54 k54) 23 w' w.heap.size (fun k_ => some k_ ≠ (v425 : Value).ownBlock) (.slice Ao21 y420.length co21) y420) ∧ Aside0 (Kd.R (Kd.int .i64) 3 w' w.heap.size (fun _ => True) v425 y424) ∧ Aside0 (Below w.heap.size w w'))
    case atStart => exact ⟨(0), (by first | rfl | (simp; done) | (simp [*]; done)), H', ⟨Nat.le_refl _⟩, ⟨gN (HO_14.out)⟩, ⟨gR (HO_15.out)⟩, ⟨bl HB.out⟩⟩
    case round =>
     clear H'
     try clear c1
     try clear c2
     try clear p2
     try clear c3
     try clear p6
     try clear c9
     try clear c10
     try clear c11
     try clear c20
     try clear c20b0
     try clear p2
     try clear p6
     obtain ⟨x17_2, rfl, HA, HK2, HO_14, HO_15, HB⟩ := hrel
     cases gk with
     | zero => exact absurd HA.out (by simp [l14_BoundsCloses.l1])
     | succ k2 =>
      have H := HA.out
      clear HA
      simp only [l14_BoundsCloses.l1] at H
      by_cases c22 : x17_2 < 3
      ·rw [if_pos c22] at H
       have c22b0 : decide (x17_2 < 3) = true := decide_eq_true c22
       clear c22
       by_cases c23 : 0 ≤ x17_2
       case neg => rw [if_neg c23] at H; exact absurd H (by simp)
       rw [if_pos c23] at H
       have c23b0 : decide (0 ≤ x17_2) = true := decide_eq_true c23
       clear c23
       by_cases c24 : x17_2 < (y424.length : Int)
       case neg => rw [if_neg c24] at H; exact absurd H (by simp)
       rw [if_pos c24] at H
       have c24b0 : decide (x17_2 < (y424.length : Int)) = true := decide_eq_true c24
       clear c24
       by_cases c25 : 0 ≤ x16_1
       case neg => rw [if_neg c25] at H; exact absurd H (by simp)
       rw [if_pos c25] at H
       have c25b0 : decide (0 ≤ x16_1) = true := decide_eq_true c25
       clear c25
       by_cases c26 : x16_1 < (y420.length : Int)
       case neg => rw [if_neg c26] at H; exact absurd H (by simp)
       rw [if_pos c26] at H
       have c26b0 : decide (x16_1 < (y420.length : Int)) = true := decide_eq_true c26
       clear c26
       replace H := Option.bind_eq_some_iff.mp H
       obtain ⟨t430, A270, H⟩ := H
       replace H : ((bounds_Close.f k2 (rd y424 x17_2) t430).bind fun bt433 => ((r14_Close.f k2 (rd y424 x17_2) (rd_L7 y420 x16_1)).bind fun bt439 => ((l14_own.f k2 (rd_L7 y420 x16_1)).bind fun t445 => ((bounds_Cycle.f (rd y424 x17_2) t445).bind fun bt448 => ((r14_Cycle.f k2 (rd y424 x17_2) (rd_L7 y420 x16_1)).bind fun bt454 => (if bt433.2 = bt439.2 then (if bt448.2 = bt454.2 then ((r14_SameTables.f k2 bt433.1 bt439.1).bind fun t458 => (if t458 = true then ((r01_SameInts.f k2 bt448.1 bt454.1).bind fun t459 => (if t459 = true then (l14_BoundsCloses.l1 k2 y420 y424 x16_1 (wrap64 (x17_2 + 1))) else (some false))) else (some false))) else (some false)) else (some false))))))) = some r := H
       have A27 := Aside0.mk A270
       clear A270
       replace H := Option.bind_eq_some_iff.mp H
       obtain ⟨⟨t433, t434⟩, A280, H⟩ := H
       replace H : ((r14_Close.f k2 (rd y424 x17_2) (rd_L7 y420 x16_1)).bind fun bt439 => ((l14_own.f k2 (rd_L7 y420 x16_1)).bind fun t445 => ((bounds_Cycle.f (rd y424 x17_2) t445).bind fun bt448 => ((r14_Cycle.f k2 (rd y424 x17_2) (rd_L7 y420 x16_1)).bind fun bt454 => (if t434 = bt439.2 then (if bt448.2 = bt454.2 then ((r14_SameTables.f k2 t433 bt439.1).bind fun t458 => (if t458 = true then ((r01_SameInts.f k2 bt448.1 bt454.1).bind fun t459 => (if t459 = true then (l14_BoundsCloses.l1 k2 y420 y424 x16_1 (wrap64 (x17_2 + 1))) else (some false))) else (some false))) else (some false)) else (some false)))))) = some r := H
       have A28 := Aside0.mk A280
       clear A280
       replace H := Option.bind_eq_some_iff.mp H
       obtain ⟨⟨t439, t440⟩, A290, H⟩ := H
       replace H : ((l14_own.f k2 (rd_L7 y420 x16_1)).bind fun t445 => ((bounds_Cycle.f (rd y424 x17_2) t445).bind fun bt448 => ((r14_Cycle.f k2 (rd y424 x17_2) (rd_L7 y420 x16_1)).bind fun bt454 => (if t434 = t440 then (if bt448.2 = bt454.2 then ((r14_SameTables.f k2 t433 t439).bind fun t458 => (if t458 = true then ((r01_SameInts.f k2 bt448.1 bt454.1).bind fun t459 => (if t459 = true then (l14_BoundsCloses.l1 k2 y420 y424 x16_1 (wrap64 (x17_2 + 1))) else (some false))) else (some false))) else (some false)) else (some false))))) = some r := H
       have A29 := Aside0.mk A290
       clear A290
       replace H := Option.bind_eq_some_iff.mp H
       obtain ⟨t445, A300, H⟩ := H
       replace H : ((bounds_Cycle.f (rd y424 x17_2) t445).bind fun bt448 => ((r14_Cycle.f k2 (rd y424 x17_2) (rd_L7 y420 x16_1)).bind fun bt454 => (if t434 = t440 then (if bt448.2 = bt454.2 then ((r14_SameTables.f k2 t433 t439).bind fun t458 => (if t458 = true then ((r01_SameInts.f k2 bt448.1 bt454.1).bind fun t459 => (if t459 = true then (l14_BoundsCloses.l1 k2 y420 y424 x16_1 (wrap64 (x17_2 + 1))) else (some false))) else (some false))) else (some false)) else (some false)))) = some r := H
       have A30 := Aside0.mk A300
       clear A300
       replace H := Option.bind_eq_some_iff.mp H
       obtain ⟨⟨t448, t449⟩, A310, H⟩ := H
       replace H : ((r14_Cycle.f k2 (rd y424 x17_2) (rd_L7 y420 x16_1)).bind fun bt454 => (if t434 = t440 then (if t449 = bt454.2 then ((r14_SameTables.f k2 t433 t439).bind fun t458 => (if t458 = true then ((r01_SameInts.f k2 t448 bt454.1).bind fun t459 => (if t459 = true then (l14_BoundsCloses.l1 k2 y420 y424 x16_1 (wrap64 (x17_2 + 1))) else (some false))) else (some false))) else (some false)) else (some false))) = some r := H
       have A31 := Aside0.mk A310
       clear A310
       replace H := Option.bind_eq_some_iff.mp H
       obtain ⟨⟨t454, t455⟩, A320, H⟩ := H
       replace H : (if t434 = t440 then (if t449 = t455 then ((r14_SameTables.f k2 t433 t439).bind fun t458 => (if t458 = true then ((r01_SameInts.f k2 t448 t454).bind fun t459 => (if t459 = true then (l14_BoundsCloses.l1 k2 y420 y424 x16_1 (wrap64 (x17_2 + 1))) else (some false))) else (some false))) else (some false)) else (some false)) = some r := H
       have A32 := Aside0.mk A320
       clear A320
       by_cases c33 : t434 = t440
       ·rw [if_pos c33] at H
        have c33b0 : (t434 == t440) = true := beq_iff_eq.mpr c33
        have c33b1 : (t434 != t440) = false := bne_eq_false_iff_eq.mpr c33
        clear c33
        by_cases c34 : t449 = t455
        ·rw [if_pos c34] at H
         have c34b0 : (t449 == t455) = true := beq_iff_eq.mpr c34
         have c34b1 : (t449 != t455) = false := bne_eq_false_iff_eq.mpr c34
         clear c34
         replace H := Option.bind_eq_some_iff.mp H
         obtain ⟨t458, A350, H⟩ := H
         replace H : (if t458 = true then ((r01_SameInts.f k2 t448 t454).bind fun t459 => (if t459 = true then (l14_BoundsCloses.l1 k2 y420 y424 x16_1 (wrap64 (x17_2 + 1))) else (some false))) else (some false)) = some r := H
         have A35 := Aside0.mk A350
         clear A350
         by_cases c36 : t458 = true
         ·subst c36
          have H1 : ((r01_SameInts.f k2 t448 t454).bind fun t459 => (if t459 = true then (l14_BoundsCloses.l1 k2 y420 y424 x16_1 (wrap64 (x17_2 + 1))) else (some false))) = some r := by rw [if_pos rfl] at H; exact H
          clear H
          have H := H1
          clear H1
          replace H := Option.bind_eq_some_iff.mp H
          obtain ⟨t459, A370, H⟩ := H
          replace H : (if t459 = true then (l14_BoundsCloses.l1 k2 y420 y424 x16_1 (wrap64 (x17_2 + 1))) else (some false)) = some r := H
          have A37 := Aside0.mk A370
          clear A370
          by_cases c38 : t459 = true
          ·subst c38
           have H1 : (l14_BoundsCloses.l1 k2 y420 y424 x16_1 (wrap64 (x17_2 + 1))) = some r := by rw [if_pos rfl] at H; exact H
           clear H
           have H := H1
           clear H1
           have H' := Aside0.mk H
           clear H
           try go_wp2
           have n0_ := Aside0.mk (Kd.N_drew HO_14.out)
           have n1_ := Aside0.mk (Kd.R_drew HO_15.out)
           have n2_ := Aside0.mk (below_drew1 HB.out)
           clear HO_14
           clear HO_15
           clear HB
           have HO_14 := n0_
           have HO_15 := n1_
           have HB := n2_
           clear n0_ n1_ n2_
           obtain ⟨Ao40, co40, eo40⟩ := Kd.R_slice HO_15.out
           (first | subst eo40 | (injection eo40 with f1_ f2_ f3_; have f4_ := f1_.symm; have f5_ := f3_.symm; clear f1_ f2_ f3_; subst f4_; subst f5_))
           have p428 : 0 ≤ (x17_2 : Int) := of_decide_eq_true (by assumption)
           have q428 : x17_2 < (y424.length : Int) := of_decide_eq_true (by assumption)
           obtain ⟨ad428, e428, hx428_0⟩ := Kd.at_int (Kd.R_reads' HO_15.out).2.2 x17_2 p428 q428
           cases e428
           replace p428 := eq_true p428
           replace q428 := eq_true q428
           have p429 : 0 ≤ (x16_1 : Int) := of_decide_eq_true (by assumption)
           have q429 : x16_1 < (y420.length : Int) := of_decide_eq_true (by assumption)
           obtain ⟨ad429, A429_0, c429_0, e429, hx429_0, hl429_0, hi429_0⟩ := at_L7 (Kd.N_reads' HO_14.out).2.2 x16_1 p429 q429
           cases e429
           obtain ⟨ce429, hce429, hMe429, hcc429⟩ := Kd.N_get HO_14.out [] x16_1 p429 (by first | exact q429 | exact of_decide_eq_true (by assumption) | (have e_ := (Kd.N_reads' HO_14.out).1; omega))
           obtain ⟨ua429_0, uc429_0, rfl, ul429_0, ge429_0⟩ := Kd.FK_slice_open hMe429
           have hv429_0 := hcc429 0 _ rfl
           rw [Nat.add_zero, show ((Kd.slice 54 k54)).sz = 1 from rfl, Nat.mul_one] at hv429_0
           replace hv429_0 := Option.some.inj (hv429_0.symm.trans hx429_0)
           injection hv429_0 with hva_ hvn_ hvc_
           rw [hva_] at ge429_0
           rw [hvc_] at ul429_0
           have HL429_0 := Aside0.mk (show Kd.V k54 54 _ w.heap.size _ _ (rd_L7 y420 x16_1) from Kd.V_mk ul429_0 ge429_0)
           clear hva_ hvn_ hvc_ ge429_0 ul429_0
           clear hcc429 hce429
           have HR429_0 := Aside0.mk hi429_0
           have HC429_0 := Aside0.mk hl429_0
           clear hi429_0 hl429_0
           replace p429 := eq_true p429
           replace q429 := eq_true q429
           refine start_ (n := 15) (S := fun w' => w'.cell? (ad428.add (x17_2).toNat) = some (.int .i64 (rd y424 x17_2)) ∧ w'.cell? (ad429.add (x16_1).toNat) = some (.slice A429_0 (rd_L7 y420 x16_1).length c429_0)) (ds := []) #[false, false, false, false, false, false, false, false, false, false, false, false, false, false, false] (by kernel_rfl) rfl rfl ⟨hx428_0, hx429_0⟩ (fun hHeld => ?_); refine with_tabW l14_BoundsCloses.tab11 l14_BoundsCloses.bits11 (fun HT_ HW_ => ?_)
           generalize wr.drew = w39 at HO_14 HO_15 HB HL429_0 HR429_0 hx428_0 hx429_0 hHeld ⊢
           refine pS_ 0 (some 62) rfl rfl HT_.out (by kernel_rfl) ?_ (fun _ _ _ h => h) (by rfl) ?_ ?_ ?_ ?_
           rotate_left
           ·intro w'
            go_simp
            with_reducible rfl
           rotate_left
           ·simp only [Act.put, spA]
            rfl
           refine pS_ 1 (some 63) rfl rfl HT_.out (by kernel_rfl) ?_ (fun _ _ _ h => h) (by rfl) ?_ ?_ ?_ ?_
           rotate_left
           ·intro w'
            go_simp
            with_reducible rfl
           rotate_left
           ·simp only [Act.put, spA]
            rfl
           refine pS_ 2 (some 64) rfl rfl HT_.out (by kernel_rfl) ?_ (fun _ _ _ h => h) (by rfl) ?_ ?_ ?_ ?_
           rotate_left
           ·intro w'
            go_simp
            with_reducible rfl
           rotate_left
           ·simp only [Act.put, spA]
            rfl
           refine pS_ 4 (some 66) rfl rfl HT_.out (by kernel_rfl) ?_ (fun _ _ _ h => h) (by rfl) ?_ ?_ ?_ ?_
           rotate_left
           ·intro w'
            go_simp
            with_reducible rfl
           rotate_left
           ·simp only [Act.put, spA]
            rfl
           refine pS_ 5 (some 67) rfl rfl HT_.out (by kernel_rfl) ?_ (fun _ _ _ h => h) (by rfl) ?_ ?_ ?_ ?_
           rotate_left
           ·intro w'
            go_simp
            with_reducible rfl
           rotate_left
           ·simp only [Act.put, spA]
            rfl
           refine pS_ 6 (some 68) rfl rfl HT_.out (by kernel_rfl) ?_ (fun _ _ _ h => h) (by rfl) ?_ ?_ ?_ ?_
           rotate_left
           ·intro w'
            go_simp
            with_reducible rfl
           rotate_left
           ·simp only [Act.put, spA]
            rfl
           refine take_ (i := 3) (N := some 65) (v := ?_) (a' := ?_) #[true, true, true, true, true, true, true, false, false, false, false, false, false, false, false] rfl rfl (take_ofW HT_.out HW_.out (by kernel_rfl)) (fun _ _ _ h => h) (Or.inl ⟨by rfl, ?_⟩) hHeld ?_ ?_
           rotate_left
           ·rintro w' ⟨s0, s1⟩
            go_simp
            with_reducible rfl
           rotate_left
           ·simp only [Act.put, spA]
            rfl
           refine take_ (i := 7) (N := some 69) (v := ?_) (a' := ?_) #[true, true, true, true, true, true, true, true, false, false, false, false, false, false, false] rfl rfl (take_ofW HT_.out HW_.out (by kernel_rfl)) (fun _ _ _ h => h) (Or.inl ⟨by rfl, ?_⟩) hHeld ?_ ?_
           rotate_left
           ·rintro w' ⟨s0, s1⟩
            go_simp
            with_reducible rfl
           rotate_left
           ·simp only [Act.put, spA]
            rfl
           refine one_ (i := 8) (N := some 70) #[true, true, true, true, true, true, true, true, true, false, false, false, false, false, false] rfl rfl (one_of HT_.out (by kernel_rfl)) (by decide) (fun K hK => ?_)
           refine goes_ Try.func13 (by kernel_rfl) rfl #[.slice A429_0 (rd_L7 y420 x16_1).length c429_0] (by rfl) rfl rfl (by (try simp only [List.map_toArray, List.map_cons, List.map_nil]); first | done | rfl | (simp only [List.length_drop, List.length_take]; rfl)) ?_
           with_reducible refine (l14_own.calls k2 _ _ (rd_L7 y420 x16_1) t430 _ ?side1 ?side2 A27.out).mono ?_
           (case side1 => exact gC (HR429_0.out))
           (case side2 => exact HC429_0.out)
           rintro e w41 ⟨v431, rfl, ho0, hb⟩
           have HS0_ := (hb.cell (World.block_lt_of_cell? _ _ (hHeld.1))).trans (hHeld.1)
           have HS1_ := (hb.cell (World.block_lt_of_cell? _ _ (hHeld.2))).trans (hHeld.2)
           refine ⟨_, rfl, ?_⟩
           have n0_ := Aside0.mk (Kd.N_elder' (gN (HO_14.out)) (Kd.R_base ho0) hb)
           have n1_ := Aside0.mk (Kd.R_below (gR (HO_15.out)) hb)
           have n2_ := Aside0.mk (Kd.V_elder' (gV (HL429_0.out)) (Kd.R_base ho0) hb)
           have n3_ := Aside0.mk (Kd.R_lower ho0 (below_size (bl HB.out)))
           have n4_ := Aside0.mk (Kd.C_below (gC HR429_0.out) hb)
           have n5_ := Aside0.mk (below_step (bl HB.out) hb)
           clear HO_14
           clear HO_15
           clear HL429_0
           clear HR429_0
           clear HB
           have HO_14 := n0_
           have HO_15 := n1_
           have HL429_0 := n2_
           have HO432 := n3_
           have HR429_0 := n4_
           have HB := n5_
           clear n0_ n1_ n2_ n3_ n4_ n5_
           (try clear hb)
           (try clear hb2)
           (try clear hk)
           (try clear hi)
           (try clear ho0)
           obtain ⟨Ao42, co42, eo42⟩ := Kd.R_slice HO432.out
           (first | subst eo42 | (injection eo42 with f1_ f2_ f3_; have f4_ := f1_.symm; have f5_ := f3_.symm; clear f1_ f2_ f3_; subst f4_; subst f5_))
           refine hK.out _ _ ⟨HS0_, HS1_⟩ (fun hHeld => ?_)
           clear hK K
           refine norm_ (a' := ?_) ?_ ?_
           rotate_left
           ·show Act.put _ (some 70) _ = _
            simp only [Act.put, spA]
            rfl
           refine one_ (i := 9) (N := some 71) #[true, true, true, true, true, true, true, true, true, true, false, false, false, false, false] rfl rfl (one_of HT_.out (by kernel_rfl)) (by decide) (fun K hK => ?_)
           refine goes_ Try.func12 (by kernel_rfl) rfl #[.int .i64 (rd y424 x17_2), .slice Ao42 t430.length co42] (by rfl) rfl rfl (by (try simp only [List.map_toArray, List.map_cons, List.map_nil]); first | done | rfl | (simp only [List.length_drop, List.length_take]; rfl)) ?_
           with_reducible refine (bounds_Close.calls k2 (rd y424 x17_2) _ _ t430 t433 t434 _ ?side1 ?side2 A28.out).mono ?_
           (case side1 => exact gC ((Kd.R_reads' HO432.out).2.2))
           (case side2 => exact (Kd.R_reads' HO432.out).2.1)
           rintro e w43 ⟨v435, rfl, ho0, hb⟩
           have HS0_ := (hb.cell (World.block_lt_of_cell? _ _ (hHeld.1))).trans (hHeld.1)
           have HS1_ := (hb.cell (World.block_lt_of_cell? _ _ (hHeld.2))).trans (hHeld.2)
           refine ⟨_, rfl, ?_⟩
           have n0_ := Aside0.mk (Kd.N_elder' (gN (HO_14.out)) (Kd.S_base ho0) hb)
           have n1_ := Aside0.mk (Kd.R_below (gR (HO_15.out)) hb)
           have n2_ := Aside0.mk (Kd.V_elder' (gV (HL429_0.out)) (Kd.S_base ho0) hb)
           have n3_ := Aside0.mk (Kd.R_below (gR (HO432.out)) hb)
           have n4_ := Aside0.mk (Kd.N_lower (Kd.N_mono (ok' := fun k_ => some k_ ≠ (.slice (some ad429) y420.length co21 : Value).ownBlock ∧ some k_ ≠ (.slice (some ad428) y424.length co40 : Value).ownBlock ∧ some k_ ≠ (.slice Ao42 t430.length co42 : Value).ownBlock) (Kd.S_N (Kd.S_bound ho0)) (fun k_ hk_ => ⟨(Kd.fresh' (Kd.N_lt (gN (HO_14.out))) k_ hk_.2.1), (Kd.fresh' (Kd.R_lt (gR (HO_15.out))) k_ hk_.2.1), (Kd.fresh' (Kd.R_lt (gR (HO432.out))) k_ hk_.2.1)⟩)) (below_size (bl HB.out)))
           have n5_ := Aside0.mk (Kd.C_below (gC HR429_0.out) hb)
           have n6_ := Aside0.mk (below_step (bl HB.out) hb)
           clear HO_14
           clear HO_15
           clear HL429_0
           clear HO432
           clear HR429_0
           clear HB
           have HO_14 := n0_
           have HO_15 := n1_
           have HL429_0 := n2_
           have HO432 := n3_
           have HO436 := n4_
           have HR429_0 := n5_
           have HB := n6_
           clear n0_ n1_ n2_ n3_ n4_ n5_ n6_
           (try clear hb)
           (try clear hb2)
           (try clear hk)
           (try clear hi)
           (try clear ho0)
           refine hK.out _ _ ⟨HS0_, HS1_⟩ (fun hHeld => ?_)
           clear hK K
           refine norm_ (a' := ?_) ?_ ?_
           rotate_left
           ·show Act.put _ (some 71) _ = _
            simp only [Act.put, spA]
            rfl
           refine pS_ 10 (some 61) rfl rfl HT_.out (by kernel_rfl) ?_ (fun _ _ _ h => h) (by rfl) ?_ ?_ ?_ ?_
           rotate_left
           ·intro w'
            go_simp
            with_reducible rfl
           rotate_left
           ·simp only [Act.put, spA]
            rfl
           refine pS_ 11 (some 72) rfl rfl HT_.out (by kernel_rfl) ?_ (fun _ _ _ h => h) (by rfl) ?_ ?_ ?_ ?_
           rotate_left
           ·intro w'
            go_simp
            with_reducible rfl
           rotate_left
           ·simp only [Act.put, spA]
            rfl
           refine pS_ 12 (some 73) rfl rfl HT_.out (by kernel_rfl) ?_ (fun _ _ _ h => h) (by rfl) ?_ ?_ ?_ ?_
           rotate_left
           ·intro w'
            go_simp
            with_reducible rfl
           rotate_left
           ·simp only [Act.put, spA]
            rfl
           refine pS_ 13 (some 18) rfl rfl HT_.out (by kernel_rfl) ?_ (fun _ _ _ h => h) (by rfl) ?_ ?_ ?_ ?_
           rotate_left
           ·intro w'
            go_simp
            with_reducible rfl
           rotate_left
           ·simp only [Act.put, spA]
            rfl
           refine pS_ 14 (some 19) rfl rfl HT_.out (by kernel_rfl) ?_ (fun _ _ _ h => h) (by rfl) ?_ ?_ ?_ ?_
           rotate_left
           ·intro w'
            go_simp
            with_reducible rfl
           rotate_left
           ·simp only [Act.put, spA]
            rfl
           refine done_ (done_of HT_.out (by kernel_rfl)) ?_
           try go_wp2
           have n0_ := Aside0.mk (Kd.N_drew HO_14.out)
           have n1_ := Aside0.mk (Kd.R_drew HO_15.out)
           have n2_ := Aside0.mk (Kd.V_drew HL429_0.out)
           have n3_ := Aside0.mk (Kd.R_drew HO432.out)
           have n4_ := Aside0.mk (Kd.N_drew HO436.out)
           have n5_ := Aside0.mk (Kd.C_drew HR429_0.out)
           have n6_ := Aside0.mk (below_drew1 HB.out)
           clear HO_14
           clear HO_15
           clear HL429_0
           clear HO432
           clear HO436
           clear HR429_0
           clear HB
           have HO_14 := n0_
           have HO_15 := n1_
           have HL429_0 := n2_
           have HO432 := n3_
           have HO436 := n4_
           have HR429_0 := n5_
           have HB := n6_
           clear n0_ n1_ n2_ n3_ n4_ n5_ n6_
           have p437 : 0 ≤ (x17_2 : Int) := of_decide_eq_true (by assumption)
           have q437 : x17_2 < (y424.length : Int) := of_decide_eq_true (by assumption)
           obtain ⟨ad437, e437, hx437_0⟩ := Kd.at_int (Kd.R_reads' HO_15.out).2.2 x17_2 p437 q437
           obtain rfl : ad428 = ad437 := (by injection e437)
           replace p437 := eq_true p437
           replace q437 := eq_true q437
           have p438 : 0 ≤ (x16_1 : Int) := of_decide_eq_true (by assumption)
           have q438 : x16_1 < (y420.length : Int) := of_decide_eq_true (by assumption)
           obtain ⟨ad438, A438_0, c438_0, e438, hx438_0, hl438_0, hi438_0⟩ := at_L7 (Kd.N_reads' HO_14.out).2.2 x16_1 p438 q438
           obtain rfl : ad429 = ad438 := (by injection e438)
           obtain ⟨ce438, hce438, hMe438, hcc438⟩ := Kd.N_get HO_14.out [] x16_1 p438 (by first | exact q438 | exact of_decide_eq_true (by assumption) | (have e_ := (Kd.N_reads' HO_14.out).1; omega))
           obtain ⟨ua438_0, uc438_0, rfl, ul438_0, ge438_0⟩ := Kd.FK_slice_open hMe438
           have hv438_0 := hcc438 0 _ rfl
           rw [Nat.add_zero, show ((Kd.slice 54 k54)).sz = 1 from rfl, Nat.mul_one] at hv438_0
           replace hv438_0 := Option.some.inj (hv438_0.symm.trans hx438_0)
           injection hv438_0 with hva_ hvn_ hvc_
           rw [hva_] at ge438_0
           rw [hvc_] at ul438_0
           have HL438_0 := Aside0.mk (show Kd.V k54 54 _ w.heap.size _ _ (rd_L7 y420 x16_1) from Kd.V_mk ul438_0 ge438_0)
           clear hva_ hvn_ hvc_ ge438_0 ul438_0
           clear hcc438 hce438
           have HR438_0 := Aside0.mk hi438_0
           have HC438_0 := Aside0.mk hl438_0
           clear hi438_0 hl438_0
           replace p438 := eq_true p438
           replace q438 := eq_true q438
           refine start_ (n := 14) (S := fun w' => w'.cell? (ad428.add (x17_2).toNat) = some (.int .i64 (rd y424 x17_2)) ∧ w'.cell? (ad429.add (x16_1).toNat) = some (.slice A438_0 (rd_L7 y420 x16_1).length c438_0)) (ds := []) #[false, false, false, false, false, false, false, false, false, false, false, false, false, false] (by kernel_rfl) rfl rfl ⟨hx437_0, hx438_0⟩ (fun hHeld => ?_); refine with_tabW l14_BoundsCloses.tab12 l14_BoundsCloses.bits12 (fun HT_ HW_ => ?_)
           generalize w43.drew = w44 at HO_14 HO_15 HL429_0 HO432 HO436 HR429_0 HB HL438_0 HR438_0 hx437_0 hx438_0 hHeld ⊢
           refine pS_ 0 (some 75) rfl rfl HT_.out (by kernel_rfl) ?_ (fun _ _ _ h => h) (by rfl) ?_ ?_ ?_ ?_
           rotate_left
           ·intro w'
            go_simp
            with_reducible rfl
           rotate_left
           ·simp only [Act.put, spA]
            rfl
           refine pS_ 1 (some 76) rfl rfl HT_.out (by kernel_rfl) ?_ (fun _ _ _ h => h) (by rfl) ?_ ?_ ?_ ?_
           rotate_left
           ·intro w'
            go_simp
            with_reducible rfl
           rotate_left
           ·simp only [Act.put, spA]
            rfl
           refine pS_ 2 (some 77) rfl rfl HT_.out (by kernel_rfl) ?_ (fun _ _ _ h => h) (by rfl) ?_ ?_ ?_ ?_
           rotate_left
           ·intro w'
            go_simp
            with_reducible rfl
           rotate_left
           ·simp only [Act.put, spA]
            rfl
           refine pS_ 4 (some 79) rfl rfl HT_.out (by kernel_rfl) ?_ (fun _ _ _ h => h) (by rfl) ?_ ?_ ?_ ?_
           rotate_left
           ·intro w'
            go_simp
            with_reducible rfl
           rotate_left
           ·simp only [Act.put, spA]
            rfl
           refine pS_ 5 (some 80) rfl rfl HT_.out (by kernel_rfl) ?_ (fun _ _ _ h => h) (by rfl) ?_ ?_ ?_ ?_
           rotate_left
           ·intro w'
            go_simp
            with_reducible rfl
           rotate_left
           ·simp only [Act.put, spA]
            rfl
           refine pS_ 6 (some 81) rfl rfl HT_.out (by kernel_rfl) ?_ (fun _ _ _ h => h) (by rfl) ?_ ?_ ?_ ?_
           rotate_left
           ·intro w'
            go_simp
            with_reducible rfl
           rotate_left
           ·simp only [Act.put, spA]
            rfl
           refine take_ (i := 3) (N := some 78) (v := ?_) (a' := ?_) #[true, true, true, true, true, true, true, false, false, false, false, false, false, false] rfl rfl (take_ofW HT_.out HW_.out (by kernel_rfl)) (fun _ _ _ h => h) (Or.inl ⟨by rfl, ?_⟩) hHeld ?_ ?_
           rotate_left
           ·rintro w' ⟨s0, s1⟩
            go_simp
            with_reducible rfl
           rotate_left
           ·simp only [Act.put, spA]
            rfl
           refine take_ (i := 7) (N := some 82) (v := ?_) (a' := ?_) #[true, true, true, true, true, true, true, true, false, false, false, false, false, false] rfl rfl (take_ofW HT_.out HW_.out (by kernel_rfl)) (fun _ _ _ h => h) (Or.inl ⟨by rfl, ?_⟩) hHeld ?_ ?_
           rotate_left
           ·rintro w' ⟨s0, s1⟩
            go_simp
            with_reducible rfl
           rotate_left
           ·simp only [Act.put, spA]
            rfl
           refine one_ (i := 8) (N := some 83) #[true, true, true, true, true, true, true, true, true, false, false, false, false, false] rfl rfl (one_of HT_.out (by kernel_rfl)) (by decide) (fun K hK => ?_)
           refine goes_ Try.func14 (by kernel_rfl) rfl #[.int .i64 (rd y424 x17_2), .slice A438_0 (rd_L7 y420 x16_1).length c438_0] (by rfl) rfl rfl (by (try simp only [List.map_toArray, List.map_cons, List.map_nil]); first | done | rfl | (simp only [List.length_drop, List.length_take]; rfl)) ?_
           with_reducible refine (r14_Close.calls k2 (rd y424 x17_2) _ _ (rd_L7 y420 x16_1) t439 t440 _ ?side1 ?side2 A29.out).mono ?_
           (case side1 => exact gC (HR438_0.out))
           (case side2 => exact HC438_0.out)
           rintro e w45 ⟨v441, rfl, ho0, hb⟩
           have HS0_ := (hb.cell (World.block_lt_of_cell? _ _ (hHeld.1))).trans (hHeld.1)
           have HS1_ := (hb.cell (World.block_lt_of_cell? _ _ (hHeld.2))).trans (hHeld.2)
           refine ⟨_, rfl, ?_⟩
           have n0_ := Aside0.mk (Kd.N_elder' (gN (HO_14.out)) (Kd.S_base ho0) hb)
           have n1_ := Aside0.mk (Kd.R_below (gR (HO_15.out)) hb)
           have n2_ := Aside0.mk (Kd.V_elder' (gV (HL429_0.out)) (Kd.S_base ho0) hb)
           have n3_ := Aside0.mk (Kd.R_below (gR (HO432.out)) hb)
           have n4_ := Aside0.mk (Kd.N_elder' (gN (HO436.out)) (Kd.S_base ho0) hb)
           have n5_ := Aside0.mk (Kd.V_elder' (gV (HL438_0.out)) (Kd.S_base ho0) hb)
           have n6_ := Aside0.mk (Kd.N_lower (Kd.N_mono (ok' := fun k_ => some k_ ≠ (.slice (some ad429) y420.length co21 : Value).ownBlock ∧ some k_ ≠ (.slice (some ad428) y424.length co40 : Value).ownBlock ∧ some k_ ≠ (.slice Ao42 t430.length co42 : Value).ownBlock ∧ some k_ ≠ (v435 : Value).ownBlock) (Kd.S_N (Kd.S_bound ho0)) (fun k_ hk_ => ⟨(Kd.fresh' (Kd.N_lt (gN (HO_14.out))) k_ hk_.2.1), (Kd.fresh' (Kd.R_lt (gR (HO_15.out))) k_ hk_.2.1), (Kd.fresh' (Kd.R_lt (gR (HO432.out))) k_ hk_.2.1), (Kd.fresh' (Kd.N_lt (gN (HO436.out))) k_ hk_.2.1)⟩)) (below_size (bl HB.out)))
           have n7_ := Aside0.mk (Kd.C_below (gC HR429_0.out) hb)
           have n8_ := Aside0.mk (Kd.C_below (gC HR438_0.out) hb)
           have n9_ := Aside0.mk (below_step (bl HB.out) hb)
           clear HO_14
           clear HO_15
           clear HL429_0
           clear HO432
           clear HO436
           clear HL438_0
           clear HR429_0
           clear HR438_0
           clear HB
           have HO_14 := n0_
           have HO_15 := n1_
           have HL429_0 := n2_
           have HO432 := n3_
           have HO436 := n4_
           have HL438_0 := n5_
           have HO442 := n6_
           have HR429_0 := n7_
           have HR438_0 := n8_
           have HB := n9_
           clear n0_ n1_ n2_ n3_ n4_ n5_ n6_ n7_ n8_ n9_
           (try clear hb)
           (try clear hb2)
           (try clear hk)
           (try clear hi)
           (try clear ho0)
           refine hK.out _ _ ⟨HS0_, HS1_⟩ (fun hHeld => ?_)
           clear hK K
           refine norm_ (a' := ?_) ?_ ?_
           rotate_left
           ·show Act.put _ (some 83) _ = _
            simp only [Act.put, spA]
            rfl
           refine pS_ 9 (some 74) rfl rfl HT_.out (by kernel_rfl) ?_ (fun _ _ _ h => h) (by rfl) ?_ ?_ ?_ ?_
           rotate_left
           ·intro w'
            go_simp
            with_reducible rfl
           rotate_left
           ·simp only [Act.put, spA]
            rfl
           refine pS_ 10 (some 84) rfl rfl HT_.out (by kernel_rfl) ?_ (fun _ _ _ h => h) (by rfl) ?_ ?_ ?_ ?_
           rotate_left
           ·intro w'
            go_simp
            with_reducible rfl
           rotate_left
           ·simp only [Act.put, spA]
            rfl
           refine pS_ 11 (some 85) rfl rfl HT_.out (by kernel_rfl) ?_ (fun _ _ _ h => h) (by rfl) ?_ ?_ ?_ ?_
           rotate_left
           ·intro w'
            go_simp
            with_reducible rfl
           rotate_left
           ·simp only [Act.put, spA]
            rfl
           refine pS_ 12 (some 20) rfl rfl HT_.out (by kernel_rfl) ?_ (fun _ _ _ h => h) (by rfl) ?_ ?_ ?_ ?_
           rotate_left
           ·intro w'
            go_simp
            with_reducible rfl
           rotate_left
           ·simp only [Act.put, spA]
            rfl
           refine pS_ 13 (some 21) rfl rfl HT_.out (by kernel_rfl) ?_ (fun _ _ _ h => h) (by rfl) ?_ ?_ ?_ ?_
           rotate_left
           ·intro w'
            go_simp
            with_reducible rfl
           rotate_left
           ·simp only [Act.put, spA]
            rfl
           refine done_ (done_of HT_.out (by kernel_rfl)) ?_
           try go_wp2
           have n0_ := Aside0.mk (Kd.N_drew HO_14.out)
           have n1_ := Aside0.mk (Kd.R_drew HO_15.out)
           have n2_ := Aside0.mk (Kd.V_drew HL429_0.out)
           have n3_ := Aside0.mk (Kd.R_drew HO432.out)
           have n4_ := Aside0.mk (Kd.N_drew HO436.out)
           have n5_ := Aside0.mk (Kd.V_drew HL438_0.out)
           have n6_ := Aside0.mk (Kd.N_drew HO442.out)
           have n7_ := Aside0.mk (Kd.C_drew HR429_0.out)
           have n8_ := Aside0.mk (Kd.C_drew HR438_0.out)
           have n9_ := Aside0.mk (below_drew1 HB.out)
           clear HO_14
           clear HO_15
           clear HL429_0
           clear HO432
           clear HO436
           clear HL438_0
           clear HO442
           clear HR429_0
           clear HR438_0
           clear HB
           have HO_14 := n0_
           have HO_15 := n1_
           have HL429_0 := n2_
           have HO432 := n3_
           have HO436 := n4_
           have HL438_0 := n5_
           have HO442 := n6_
           have HR429_0 := n7_
           have HR438_0 := n8_
           have HB := n9_
           clear n0_ n1_ n2_ n3_ n4_ n5_ n6_ n7_ n8_ n9_
           have p443 : 0 ≤ (x17_2 : Int) := of_decide_eq_true (by assumption)
           have q443 : x17_2 < (y424.length : Int) := of_decide_eq_true (by assumption)
           obtain ⟨ad443, e443, hx443_0⟩ := Kd.at_int (Kd.R_reads' HO_15.out).2.2 x17_2 p443 q443
           obtain rfl : ad428 = ad443 := (by injection e443)
           replace p443 := eq_true p443
           replace q443 := eq_true q443
           have p444 : 0 ≤ (x16_1 : Int) := of_decide_eq_true (by assumption)
           have q444 : x16_1 < (y420.length : Int) := of_decide_eq_true (by assumption)
           obtain ⟨ad444, A444_0, c444_0, e444, hx444_0, hl444_0, hi444_0⟩ := at_L7 (Kd.N_reads' HO_14.out).2.2 x16_1 p444 q444
           obtain rfl : ad429 = ad444 := (by injection e444)
           obtain ⟨ce444, hce444, hMe444, hcc444⟩ := Kd.N_get HO_14.out [] x16_1 p444 (by first | exact q444 | exact of_decide_eq_true (by assumption) | (have e_ := (Kd.N_reads' HO_14.out).1; omega))
           obtain ⟨ua444_0, uc444_0, rfl, ul444_0, ge444_0⟩ := Kd.FK_slice_open hMe444
           have hv444_0 := hcc444 0 _ rfl
           rw [Nat.add_zero, show ((Kd.slice 54 k54)).sz = 1 from rfl, Nat.mul_one] at hv444_0
           replace hv444_0 := Option.some.inj (hv444_0.symm.trans hx444_0)
           injection hv444_0 with hva_ hvn_ hvc_
           rw [hva_] at ge444_0
           rw [hvc_] at ul444_0
           have HL444_0 := Aside0.mk (show Kd.V k54 54 _ w.heap.size _ _ (rd_L7 y420 x16_1) from Kd.V_mk ul444_0 ge444_0)
           clear hva_ hvn_ hvc_ ge444_0 ul444_0
           clear hcc444 hce444
           have HR444_0 := Aside0.mk hi444_0
           have HC444_0 := Aside0.mk hl444_0
           clear hi444_0 hl444_0
           replace p444 := eq_true p444
           replace q444 := eq_true q444
           refine start_ (n := 15) (S := fun w' => w'.cell? (ad428.add (x17_2).toNat) = some (.int .i64 (rd y424 x17_2)) ∧ w'.cell? (ad429.add (x16_1).toNat) = some (.slice A444_0 (rd_L7 y420 x16_1).length c444_0)) (ds := []) #[false, false, false, false, false, false, false, false, false, false, false, false, false, false, false] (by kernel_rfl) rfl rfl ⟨hx443_0, hx444_0⟩ (fun hHeld => ?_); refine with_tabW l14_BoundsCloses.tab13 l14_BoundsCloses.bits13 (fun HT_ HW_ => ?_)
           generalize w45.drew = w46 at HO_14 HO_15 HL429_0 HO432 HO436 HL438_0 HO442 HR429_0 HR438_0 HB HL444_0 HR444_0 hx443_0 hx444_0 hHeld ⊢
           refine pS_ 0 (some 87) rfl rfl HT_.out (by kernel_rfl) ?_ (fun _ _ _ h => h) (by rfl) ?_ ?_ ?_ ?_
           rotate_left
           ·intro w'
            go_simp
            with_reducible rfl
           rotate_left
           ·simp only [Act.put, spA]
            rfl
           refine pS_ 1 (some 88) rfl rfl HT_.out (by kernel_rfl) ?_ (fun _ _ _ h => h) (by rfl) ?_ ?_ ?_ ?_
           rotate_left
           ·intro w'
            go_simp
            with_reducible rfl
           rotate_left
           ·simp only [Act.put, spA]
            rfl
           refine pS_ 2 (some 89) rfl rfl HT_.out (by kernel_rfl) ?_ (fun _ _ _ h => h) (by rfl) ?_ ?_ ?_ ?_
           rotate_left
           ·intro w'
            go_simp
            with_reducible rfl
           rotate_left
           ·simp only [Act.put, spA]
            rfl
           refine pS_ 4 (some 91) rfl rfl HT_.out (by kernel_rfl) ?_ (fun _ _ _ h => h) (by rfl) ?_ ?_ ?_ ?_
           rotate_left
           ·intro w'
            go_simp
            with_reducible rfl
           rotate_left
           ·simp only [Act.put, spA]
            rfl
           refine pS_ 5 (some 92) rfl rfl HT_.out (by kernel_rfl) ?_ (fun _ _ _ h => h) (by rfl) ?_ ?_ ?_ ?_
           rotate_left
           ·intro w'
            go_simp
            with_reducible rfl
           rotate_left
           ·simp only [Act.put, spA]
            rfl
           refine pS_ 6 (some 93) rfl rfl HT_.out (by kernel_rfl) ?_ (fun _ _ _ h => h) (by rfl) ?_ ?_ ?_ ?_
           rotate_left
           ·intro w'
            go_simp
            with_reducible rfl
           rotate_left
           ·simp only [Act.put, spA]
            rfl
           refine take_ (i := 3) (N := some 90) (v := ?_) (a' := ?_) #[true, true, true, true, true, true, true, false, false, false, false, false, false, false, false] rfl rfl (take_ofW HT_.out HW_.out (by kernel_rfl)) (fun _ _ _ h => h) (Or.inl ⟨by rfl, ?_⟩) hHeld ?_ ?_
           rotate_left
           ·rintro w' ⟨s0, s1⟩
            go_simp
            with_reducible rfl
           rotate_left
           ·simp only [Act.put, spA]
            rfl
           refine take_ (i := 7) (N := some 94) (v := ?_) (a' := ?_) #[true, true, true, true, true, true, true, true, false, false, false, false, false, false, false] rfl rfl (take_ofW HT_.out HW_.out (by kernel_rfl)) (fun _ _ _ h => h) (Or.inl ⟨by rfl, ?_⟩) hHeld ?_ ?_
           rotate_left
           ·rintro w' ⟨s0, s1⟩
            go_simp
            with_reducible rfl
           rotate_left
           ·simp only [Act.put, spA]
            rfl
           refine one_ (i := 8) (N := some 95) #[true, true, true, true, true, true, true, true, true, false, false, false, false, false, false] rfl rfl (one_of HT_.out (by kernel_rfl)) (by decide) (fun K hK => ?_)
           refine goes_ Try.func13 (by kernel_rfl) rfl #[.slice A444_0 (rd_L7 y420 x16_1).length c444_0] (by rfl) rfl rfl (by (try simp only [List.map_toArray, List.map_cons, List.map_nil]); first | done | rfl | (simp only [List.length_drop, List.length_take]; rfl)) ?_
           with_reducible refine (l14_own.calls k2 _ _ (rd_L7 y420 x16_1) t445 _ ?side1 ?side2 A30.out).mono ?_
           (case side1 => exact gC (HR444_0.out))
           (case side2 => exact HC444_0.out)
           rintro e w47 ⟨v446, rfl, ho0, hb⟩
           have HS0_ := (hb.cell (World.block_lt_of_cell? _ _ (hHeld.1))).trans (hHeld.1)
           have HS1_ := (hb.cell (World.block_lt_of_cell? _ _ (hHeld.2))).trans (hHeld.2)
           refine ⟨_, rfl, ?_⟩
           have n0_ := Aside0.mk (Kd.N_elder' (gN (HO_14.out)) (Kd.R_base ho0) hb)
           have n1_ := Aside0.mk (Kd.R_below (gR (HO_15.out)) hb)
           have n2_ := Aside0.mk (Kd.V_elder' (gV (HL429_0.out)) (Kd.R_base ho0) hb)
           have n3_ := Aside0.mk (Kd.R_elder' (gR (HO432.out)) (Kd.R_base ho0) hb)
           have n4_ := Aside0.mk (Kd.N_elder' (gN (HO436.out)) (Kd.R_base ho0) hb)
           have n5_ := Aside0.mk (Kd.V_elder' (gV (HL438_0.out)) (Kd.R_base ho0) hb)
           have n6_ := Aside0.mk (Kd.N_elder' (gN (HO442.out)) (Kd.R_base ho0) hb)
           have n7_ := Aside0.mk (Kd.V_elder' (gV (HL444_0.out)) (Kd.R_base ho0) hb)
           have n8_ := Aside0.mk (Kd.R_lower (Kd.R_new' ho0 (Kd.R_lt (gR (HO432.out)))) (below_size (bl HB.out)))
           have n9_ := Aside0.mk (Kd.C_below (gC HR429_0.out) hb)
           have n10_ := Aside0.mk (Kd.C_below (gC HR438_0.out) hb)
           have n11_ := Aside0.mk (Kd.C_below (gC HR444_0.out) hb)
           have n12_ := Aside0.mk (below_step (bl HB.out) hb)
           clear HO_14
           clear HO_15
           clear HL429_0
           clear HO432
           clear HO436
           clear HL438_0
           clear HO442
           clear HL444_0
           clear HR429_0
           clear HR438_0
           clear HR444_0
           clear HB
           have HO_14 := n0_
           have HO_15 := n1_
           have HL429_0 := n2_
           have HO432 := n3_
           have HO436 := n4_
           have HL438_0 := n5_
           have HO442 := n6_
           have HL444_0 := n7_
           have HO447 := n8_
           have HR429_0 := n9_
           have HR438_0 := n10_
           have HR444_0 := n11_
           have HB := n12_
           clear n0_ n1_ n2_ n3_ n4_ n5_ n6_ n7_ n8_ n9_ n10_ n11_ n12_
           (try clear hb)
           (try clear hb2)
           (try clear hk)
           (try clear hi)
           (try clear ho0)
           obtain ⟨Ao48, co48, eo48⟩ := Kd.R_slice HO447.out
           (first | subst eo48 | (injection eo48 with f1_ f2_ f3_; have f4_ := f1_.symm; have f5_ := f3_.symm; clear f1_ f2_ f3_; subst f4_; subst f5_))
           refine hK.out _ _ ⟨HS0_, HS1_⟩ (fun hHeld => ?_)
           clear hK K
           refine norm_ (a' := ?_) ?_ ?_
           rotate_left
           ·show Act.put _ (some 95) _ = _
            simp only [Act.put, spA]
            rfl
           refine one_ (i := 9) (N := some 96) #[true, true, true, true, true, true, true, true, true, true, false, false, false, false, false] rfl rfl (one_of HT_.out (by kernel_rfl)) (by decide) (fun K hK => ?_)
           refine goes_ Try.func15 (by kernel_rfl) rfl #[.int .i64 (rd y424 x17_2), .slice Ao48 t445.length co48] (by rfl) rfl rfl (by (try simp only [List.map_toArray, List.map_cons, List.map_nil]); first | done | rfl | (simp only [List.length_drop, List.length_take]; rfl)) ?_
           with_reducible refine (bounds_Cycle.calls (rd y424 x17_2) _ _ t445 t448 t449 _ ?side1 ?side2 A31.out).mono ?_
           (case side1 => exact gC ((Kd.R_reads' HO447.out).2.2))
           (case side2 => exact (Kd.R_reads' HO447.out).2.1)
           rintro e w49 ⟨v450, rfl, ho0, hb⟩
           have HS0_ := (hb.cell (World.block_lt_of_cell? _ _ (hHeld.1))).trans (hHeld.1)
           have HS1_ := (hb.cell (World.block_lt_of_cell? _ _ (hHeld.2))).trans (hHeld.2)
           refine ⟨_, rfl, ?_⟩
           have n0_ := Aside0.mk (Kd.N_elder' (gN (HO_14.out)) (Kd.R_base ho0) hb)
           have n1_ := Aside0.mk (Kd.R_elder' (gR (HO_15.out)) (Kd.R_base ho0) hb)
           have n2_ := Aside0.mk (Kd.V_elder' (gV (HL429_0.out)) (Kd.R_base ho0) hb)
           have n3_ := Aside0.mk (Kd.R_below (gR (HO432.out)) hb)
           have n4_ := Aside0.mk (Kd.N_elder' (gN (HO436.out)) (Kd.R_base ho0) hb)
           have n5_ := Aside0.mk (Kd.V_elder' (gV (HL438_0.out)) (Kd.R_base ho0) hb)
           have n6_ := Aside0.mk (Kd.N_elder' (gN (HO442.out)) (Kd.R_base ho0) hb)
           have n7_ := Aside0.mk (Kd.V_elder' (gV (HL444_0.out)) (Kd.R_base ho0) hb)
           have n8_ := Aside0.mk (Kd.R_below (gR (HO447.out)) hb)
           have n9_ := Aside0.mk (Kd.R_lower (Kd.R_new' ho0 (Kd.R_lt (gR (HO_15.out)))) (below_size (bl HB.out)))
           have n10_ := Aside0.mk (Kd.C_below (gC HR429_0.out) hb)
           have n11_ := Aside0.mk (Kd.C_below (gC HR438_0.out) hb)
           have n12_ := Aside0.mk (Kd.C_below (gC HR444_0.out) hb)
           have n13_ := Aside0.mk (below_step (bl HB.out) hb)
           clear HO_14
           clear HO_15
           clear HL429_0
           clear HO432
           clear HO436
           clear HL438_0
           clear HO442
           clear HL444_0
           clear HO447
           clear HR429_0
           clear HR438_0
           clear HR444_0
           clear HB
           have HO_14 := n0_
           have HO_15 := n1_
           have HL429_0 := n2_
           have HO432 := n3_
           have HO436 := n4_
           have HL438_0 := n5_
           have HO442 := n6_
           have HL444_0 := n7_
           have HO447 := n8_
           have HO451 := n9_
           have HR429_0 := n10_
           have HR438_0 := n11_
           have HR444_0 := n12_
           have HB := n13_
           clear n0_ n1_ n2_ n3_ n4_ n5_ n6_ n7_ n8_ n9_ n10_ n11_ n12_ n13_
           (try clear hb)
           (try clear hb2)
           (try clear hk)
           (try clear hi)
           (try clear ho0)
           refine hK.out _ _ ⟨HS0_, HS1_⟩ (fun hHeld => ?_)
           clear hK K
           refine norm_ (a' := ?_) ?_ ?_
           rotate_left
           ·show Act.put _ (some 96) _ = _
            simp only [Act.put, spA]
            rfl
           refine pS_ 10 (some 86) rfl rfl HT_.out (by kernel_rfl) ?_ (fun _ _ _ h => h) (by rfl) ?_ ?_ ?_ ?_
           rotate_left
           ·intro w'
            go_simp
            with_reducible rfl
           rotate_left
           ·simp only [Act.put, spA]
            rfl
           refine pS_ 11 (some 97) rfl rfl HT_.out (by kernel_rfl) ?_ (fun _ _ _ h => h) (by rfl) ?_ ?_ ?_ ?_
           rotate_left
           ·intro w'
            go_simp
            with_reducible rfl
           rotate_left
           ·simp only [Act.put, spA]
            rfl
           refine pS_ 12 (some 98) rfl rfl HT_.out (by kernel_rfl) ?_ (fun _ _ _ h => h) (by rfl) ?_ ?_ ?_ ?_
           rotate_left
           ·intro w'
            go_simp
            with_reducible rfl
           rotate_left
           ·simp only [Act.put, spA]
            rfl
           refine pS_ 13 (some 22) rfl rfl HT_.out (by kernel_rfl) ?_ (fun _ _ _ h => h) (by rfl) ?_ ?_ ?_ ?_
           rotate_left
           ·intro w'
            go_simp
            with_reducible rfl
           rotate_left
           ·simp only [Act.put, spA]
            rfl
           refine pS_ 14 (some 23) rfl rfl HT_.out (by kernel_rfl) ?_ (fun _ _ _ h => h) (by rfl) ?_ ?_ ?_ ?_
           rotate_left
           ·intro w'
            go_simp
            with_reducible rfl
           rotate_left
           ·simp only [Act.put, spA]
            rfl
           refine done_ (done_of HT_.out (by kernel_rfl)) ?_
           try go_wp2
           have n0_ := Aside0.mk (Kd.N_drew HO_14.out)
           have n1_ := Aside0.mk (Kd.R_drew HO_15.out)
           have n2_ := Aside0.mk (Kd.V_drew HL429_0.out)
           have n3_ := Aside0.mk (Kd.R_drew HO432.out)
           have n4_ := Aside0.mk (Kd.N_drew HO436.out)
           have n5_ := Aside0.mk (Kd.V_drew HL438_0.out)
           have n6_ := Aside0.mk (Kd.N_drew HO442.out)
           have n7_ := Aside0.mk (Kd.V_drew HL444_0.out)
           have n8_ := Aside0.mk (Kd.R_drew HO447.out)
           have n9_ := Aside0.mk (Kd.R_drew HO451.out)
           have n10_ := Aside0.mk (Kd.C_drew HR429_0.out)
           have n11_ := Aside0.mk (Kd.C_drew HR438_0.out)
           have n12_ := Aside0.mk (Kd.C_drew HR444_0.out)
           have n13_ := Aside0.mk (below_drew1 HB.out)
           clear HO_14
           clear HO_15
           clear HL429_0
           clear HO432
           clear HO436
           clear HL438_0
           clear HO442
           clear HL444_0
           clear HO447
           clear HO451
           clear HR429_0
           clear HR438_0
           clear HR444_0
           clear HB
           have HO_14 := n0_
           have HO_15 := n1_
           have HL429_0 := n2_
           have HO432 := n3_
           have HO436 := n4_
           have HL438_0 := n5_
           have HO442 := n6_
           have HL444_0 := n7_
           have HO447 := n8_
           have HO451 := n9_
           have HR429_0 := n10_
           have HR438_0 := n11_
           have HR444_0 := n12_
           have HB := n13_
           clear n0_ n1_ n2_ n3_ n4_ n5_ n6_ n7_ n8_ n9_ n10_ n11_ n12_ n13_
           have p452 : 0 ≤ (x17_2 : Int) := of_decide_eq_true (by assumption)
           have q452 : x17_2 < (y424.length : Int) := of_decide_eq_true (by assumption)
           obtain ⟨ad452, e452, hx452_0⟩ := Kd.at_int (Kd.R_reads' HO_15.out).2.2 x17_2 p452 q452
           obtain rfl : ad428 = ad452 := (by injection e452)
           replace p452 := eq_true p452
           replace q452 := eq_true q452
           have p453 : 0 ≤ (x16_1 : Int) := of_decide_eq_true (by assumption)
           have q453 : x16_1 < (y420.length : Int) := of_decide_eq_true (by assumption)
           obtain ⟨ad453, A453_0, c453_0, e453, hx453_0, hl453_0, hi453_0⟩ := at_L7 (Kd.N_reads' HO_14.out).2.2 x16_1 p453 q453
           obtain rfl : ad429 = ad453 := (by injection e453)
           obtain ⟨ce453, hce453, hMe453, hcc453⟩ := Kd.N_get HO_14.out [] x16_1 p453 (by first | exact q453 | exact of_decide_eq_true (by assumption) | (have e_ := (Kd.N_reads' HO_14.out).1; omega))
           obtain ⟨ua453_0, uc453_0, rfl, ul453_0, ge453_0⟩ := Kd.FK_slice_open hMe453
           have hv453_0 := hcc453 0 _ rfl
           rw [Nat.add_zero, show ((Kd.slice 54 k54)).sz = 1 from rfl, Nat.mul_one] at hv453_0
           replace hv453_0 := Option.some.inj (hv453_0.symm.trans hx453_0)
           injection hv453_0 with hva_ hvn_ hvc_
           rw [hva_] at ge453_0
           rw [hvc_] at ul453_0
           have HL453_0 := Aside0.mk (show Kd.V k54 54 _ w.heap.size _ _ (rd_L7 y420 x16_1) from Kd.V_mk ul453_0 ge453_0)
           clear hva_ hvn_ hvc_ ge453_0 ul453_0
           clear hcc453 hce453
           have HR453_0 := Aside0.mk hi453_0
           have HC453_0 := Aside0.mk hl453_0
           clear hi453_0 hl453_0
           replace p453 := eq_true p453
           replace q453 := eq_true q453
           refine start_ (n := 14) (S := fun w' => w'.cell? (ad428.add (x17_2).toNat) = some (.int .i64 (rd y424 x17_2)) ∧ w'.cell? (ad429.add (x16_1).toNat) = some (.slice A453_0 (rd_L7 y420 x16_1).length c453_0)) (ds := []) #[false, false, false, false, false, false, false, false, false, false, false, false, false, false] (by kernel_rfl) rfl rfl ⟨hx452_0, hx453_0⟩ (fun hHeld => ?_); refine with_tabW l14_BoundsCloses.tab14 l14_BoundsCloses.bits14 (fun HT_ HW_ => ?_)
           generalize w49.drew = w50 at HO_14 HO_15 HL429_0 HO432 HO436 HL438_0 HO442 HL444_0 HO447 HO451 HR429_0 HR438_0 HR444_0 HB HL453_0 HR453_0 hx452_0 hx453_0 hHeld ⊢
           refine pS_ 0 (some 100) rfl rfl HT_.out (by kernel_rfl) ?_ (fun _ _ _ h => h) (by rfl) ?_ ?_ ?_ ?_
           rotate_left
           ·intro w'
            go_simp
            with_reducible rfl
           rotate_left
           ·simp only [Act.put, spA]
            rfl
           refine pS_ 1 (some 101) rfl rfl HT_.out (by kernel_rfl) ?_ (fun _ _ _ h => h) (by rfl) ?_ ?_ ?_ ?_
           rotate_left
           ·intro w'
            go_simp
            with_reducible rfl
           rotate_left
           ·simp only [Act.put, spA]
            rfl
           refine pS_ 2 (some 102) rfl rfl HT_.out (by kernel_rfl) ?_ (fun _ _ _ h => h) (by rfl) ?_ ?_ ?_ ?_
           rotate_left
           ·intro w'
            go_simp
            with_reducible rfl
           rotate_left
           ·simp only [Act.put, spA]
            rfl
           refine pS_ 4 (some 104) rfl rfl HT_.out (by kernel_rfl) ?_ (fun _ _ _ h => h) (by rfl) ?_ ?_ ?_ ?_
           rotate_left
           ·intro w'
            go_simp
            with_reducible rfl
           rotate_left
           ·simp only [Act.put, spA]
            rfl
           refine pS_ 5 (some 105) rfl rfl HT_.out (by kernel_rfl) ?_ (fun _ _ _ h => h) (by rfl) ?_ ?_ ?_ ?_
           rotate_left
           ·intro w'
            go_simp
            with_reducible rfl
           rotate_left
           ·simp only [Act.put, spA]
            rfl
           refine pS_ 6 (some 106) rfl rfl HT_.out (by kernel_rfl) ?_ (fun _ _ _ h => h) (by rfl) ?_ ?_ ?_ ?_
           rotate_left
           ·intro w'
            go_simp
            with_reducible rfl
           rotate_left
           ·simp only [Act.put, spA]
            rfl
           refine take_ (i := 3) (N := some 103) (v := ?_) (a' := ?_) #[true, true, true, true, true, true, true, false, false, false, false, false, false, false] rfl rfl (take_ofW HT_.out HW_.out (by kernel_rfl)) (fun _ _ _ h => h) (Or.inl ⟨by rfl, ?_⟩) hHeld ?_ ?_
           rotate_left
           ·rintro w' ⟨s0, s1⟩
            go_simp
            with_reducible rfl
           rotate_left
           ·simp only [Act.put, spA]
            rfl
           refine take_ (i := 7) (N := some 107) (v := ?_) (a' := ?_) #[true, true, true, true, true, true, true, true, false, false, false, false, false, false] rfl rfl (take_ofW HT_.out HW_.out (by kernel_rfl)) (fun _ _ _ h => h) (Or.inl ⟨by rfl, ?_⟩) hHeld ?_ ?_
           rotate_left
           ·rintro w' ⟨s0, s1⟩
            go_simp
            with_reducible rfl
           rotate_left
           ·simp only [Act.put, spA]
            rfl
           refine one_ (i := 8) (N := some 108) #[true, true, true, true, true, true, true, true, true, false, false, false, false, false] rfl rfl (one_of HT_.out (by kernel_rfl)) (by decide) (fun K hK => ?_)
           refine goes_ Try.func16 (by kernel_rfl) rfl #[.int .i64 (rd y424 x17_2), .slice A453_0 (rd_L7 y420 x16_1).length c453_0] (by rfl) rfl rfl (by (try simp only [List.map_toArray, List.map_cons, List.map_nil]); first | done | rfl | (simp only [List.length_drop, List.length_take]; rfl)) ?_
           with_reducible refine (r14_Cycle.calls k2 (rd y424 x17_2) _ _ (rd_L7 y420 x16_1) t454 t455 _ ?side1 ?side2 A32.out).mono ?_
           (case side1 => exact gC (HR453_0.out))
           (case side2 => exact HC453_0.out)
           rintro e w51 ⟨v456, rfl, ho0, hb⟩
           have HS0_ := (hb.cell (World.block_lt_of_cell? _ _ (hHeld.1))).trans (hHeld.1)
           have HS1_ := (hb.cell (World.block_lt_of_cell? _ _ (hHeld.2))).trans (hHeld.2)
           refine ⟨_, rfl, ?_⟩
           have n0_ := Aside0.mk (Kd.N_elder' (gN (HO_14.out)) (Kd.R_base ho0) hb)
           have n1_ := Aside0.mk (Kd.R_elder' (gR (HO_15.out)) (Kd.R_base ho0) hb)
           have n2_ := Aside0.mk (Kd.V_elder' (gV (HL429_0.out)) (Kd.R_base ho0) hb)
           have n3_ := Aside0.mk (Kd.R_below (gR (HO432.out)) hb)
           have n4_ := Aside0.mk (Kd.N_elder' (gN (HO436.out)) (Kd.R_base ho0) hb)
           have n5_ := Aside0.mk (Kd.V_elder' (gV (HL438_0.out)) (Kd.R_base ho0) hb)
           have n6_ := Aside0.mk (Kd.N_elder' (gN (HO442.out)) (Kd.R_base ho0) hb)
           have n7_ := Aside0.mk (Kd.V_elder' (gV (HL444_0.out)) (Kd.R_base ho0) hb)
           have n8_ := Aside0.mk (Kd.R_below (gR (HO447.out)) hb)
           have n9_ := Aside0.mk (Kd.R_elder' (gR (HO451.out)) (Kd.R_base ho0) hb)
           have n10_ := Aside0.mk (Kd.V_elder' (gV (HL453_0.out)) (Kd.R_base ho0) hb)
           have n11_ := Aside0.mk (Kd.R_lower (Kd.R_new' (Kd.R_new' ho0 (Kd.R_lt (gR (HO_15.out)))) (Kd.R_lt (gR (HO451.out)))) (below_size (bl HB.out)))
           have n12_ := Aside0.mk (Kd.C_below (gC HR429_0.out) hb)
           have n13_ := Aside0.mk (Kd.C_below (gC HR438_0.out) hb)
           have n14_ := Aside0.mk (Kd.C_below (gC HR444_0.out) hb)
           have n15_ := Aside0.mk (Kd.C_below (gC HR453_0.out) hb)
           have n16_ := Aside0.mk (below_step (bl HB.out) hb)
           clear HO_14
           clear HO_15
           clear HL429_0
           clear HO432
           clear HO436
           clear HL438_0
           clear HO442
           clear HL444_0
           clear HO447
           clear HO451
           clear HL453_0
           clear HR429_0
           clear HR438_0
           clear HR444_0
           clear HR453_0
           clear HB
           have HO_14 := n0_
           have HO_15 := n1_
           have HL429_0 := n2_
           have HO432 := n3_
           have HO436 := n4_
           have HL438_0 := n5_
           have HO442 := n6_
           have HL444_0 := n7_
           have HO447 := n8_
           have HO451 := n9_
           have HL453_0 := n10_
           have HO457 := n11_
           have HR429_0 := n12_
           have HR438_0 := n13_
           have HR444_0 := n14_
           have HR453_0 := n15_
           have HB := n16_
           clear n0_ n1_ n2_ n3_ n4_ n5_ n6_ n7_ n8_ n9_ n10_ n11_ n12_ n13_ n14_ n15_ n16_
           (try clear hb)
           (try clear hb2)
           (try clear hk)
           (try clear hi)
           (try clear ho0)
           refine hK.out _ _ ⟨HS0_, HS1_⟩ (fun hHeld => ?_)
           clear hK K
           refine norm_ (a' := ?_) ?_ ?_
           rotate_left
           ·show Act.put _ (some 108) _ = _
            simp only [Act.put, spA]
            rfl
           refine pS_ 9 (some 99) rfl rfl HT_.out (by kernel_rfl) ?_ (fun _ _ _ h => h) (by rfl) ?_ ?_ ?_ ?_
           rotate_left
           ·intro w'
            go_simp
            with_reducible rfl
           rotate_left
           ·simp only [Act.put, spA]
            rfl
           refine pS_ 10 (some 109) rfl rfl HT_.out (by kernel_rfl) ?_ (fun _ _ _ h => h) (by rfl) ?_ ?_ ?_ ?_
           rotate_left
           ·intro w'
            go_simp
            with_reducible rfl
           rotate_left
           ·simp only [Act.put, spA]
            rfl
           refine pS_ 11 (some 110) rfl rfl HT_.out (by kernel_rfl) ?_ (fun _ _ _ h => h) (by rfl) ?_ ?_ ?_ ?_
           rotate_left
           ·intro w'
            go_simp
            with_reducible rfl
           rotate_left
           ·simp only [Act.put, spA]
            rfl
           refine pS_ 12 (some 24) rfl rfl HT_.out (by kernel_rfl) ?_ (fun _ _ _ h => h) (by rfl) ?_ ?_ ?_ ?_
           rotate_left
           ·intro w'
            go_simp
            with_reducible rfl
           rotate_left
           ·simp only [Act.put, spA]
            rfl
           refine pS_ 13 (some 25) rfl rfl HT_.out (by kernel_rfl) ?_ (fun _ _ _ h => h) (by rfl) ?_ ?_ ?_ ?_
           rotate_left
           ·intro w'
            go_simp
            with_reducible rfl
           rotate_left
           ·simp only [Act.put, spA]
            rfl
           refine done_ (done_of HT_.out (by kernel_rfl)) ?_
           obtain ⟨Ao52, co52, eo52⟩ := Kd.N_slice HO436.out
           subst eo52
           obtain ⟨Ao53, co53, eo53⟩ := Kd.N_slice HO442.out
           subst eo53
           try go_wp2_with (first | (go_at_call 17; (with_reducible refine (r14_SameTables.calls k2 _ _ t433 _ _ t439 true _ ?side1 ?side2 ?side3 ?side4 A35.out).mono ?_); (case side1 => exact gC ((Kd.N_reads' HO436.out).2.2)); (case side2 => exact (Kd.N_reads' HO436.out).2.1); (case side3 => exact gC ((Kd.N_reads' HO442.out).2.2)); (case side4 => exact (Kd.N_reads' HO442.out).2.1); rintro e w' ⟨rfl, ⟨nd, rfl⟩⟩; obtain ⟨Ao54, co54, eo54⟩ := Kd.R_slice HO451.out; subst eo54; obtain ⟨Ao55, co55, eo55⟩ := Kd.R_slice HO457.out; subst eo55) | (go_at_call 18; (with_reducible refine (r01_SameInts.calls k2 _ _ t448 _ _ t454 true _ ?side1 ?side2 ?side3 ?side4 A37.out).mono ?_); (case side1 => exact gC ((Kd.R_reads' HO451.out).2.2)); (case side2 => exact (Kd.R_reads' HO451.out).2.1); (case side3 => exact gC ((Kd.R_reads' HO457.out).2.2)); (case side4 => exact (Kd.R_reads' HO457.out).2.1); rintro e w' ⟨rfl, ⟨nd, rfl⟩⟩))
           go_roundg k2
           case measure => have := HK1.out; have := HK2.out; omega
           case rel => exact ⟨(wrap64 (x17_2 + 1)), (by first | rfl | (simp; done) | (simp [*]; done)), H', ⟨by have := HK1.out; have := HK2.out; omega⟩, ⟨gN (Kd.N_mono HO_14.out (fun _ hk => hk.1.1.1.1.1.1))⟩, ⟨gR (Kd.R_mono HO_15.out (fun _ hk => trivial))⟩, ⟨bl HB.out⟩⟩
          ·replace c38 := Bool.eq_false_iff.mpr c38
           subst c38
           have H1 : (some false) = some r := by rw [if_neg (show ¬ (false = true) by decide)] at H; exact H
           clear H
           have H := H1
           clear H1
           exact absurd H (by rw [HT.out]; simp)
         ·replace c36 := Bool.eq_false_iff.mpr c36
          subst c36
          have H1 : (some false) = some r := by rw [if_neg (show ¬ (false = true) by decide)] at H; exact H
          clear H
          have H := H1
          clear H1
          exact absurd H (by rw [HT.out]; simp)
        ·rw [if_neg c34] at H
         have c34b0 : (t449 == t455) = false := beq_eq_false_iff_ne.mpr c34
         have c34b1 : (t449 != t455) = true := bne_iff_ne.mpr c34
         exact absurd H (by rw [HT.out]; simp)
       ·rw [if_neg c33] at H
        have c33b0 : (t434 == t440) = false := beq_eq_false_iff_ne.mpr c33
        have c33b1 : (t434 != t440) = true := bne_iff_ne.mpr c33
        exact absurd H (by rw [HT.out]; simp)
      ·rw [if_neg c22] at H
       have c22b0 : decide (x17_2 < 3) = false := decide_eq_false c22
       clear c22
       have H' := Aside0.mk H
       clear H
       go_wp2
       go_roundg k2
       case measure => have := HK1.out; have := HK2.out; omega
       case rel => exact ⟨(wrap64 (x16_1 + 1)), (by first | rfl | (simp; done) | (simp [*]; done)), H', ⟨by have := HK1.out; have := HK2.out; omega⟩, ⟨gN (HO_14.out)⟩, ⟨gR (HO_15.out)⟩, ⟨bl HB.out⟩⟩
   ·rw [if_neg c20] at H
    have c20b0 : decide (x16_1 < (y420.length : Int)) = false := decide_eq_false c20
    clear c20
    replace H := Option.bind_eq_some_iff.mp H
    obtain ⟨t427, A560, H⟩ := H
    replace H : (some t427) = some r := H
    have A56 := Aside0.mk A560
    clear A560
    obtain rfl := Option.some.inj H
    obtain ⟨Ao57, co57, eo57⟩ := Kd.N_slice HO_14.out
    subst eo57
    go_wp2_with (first | ((with_reducible refine gate_callee (f := 19) rfl ?_); refine goesL_ (some 131) rfl rfl Try.func19 (by kernel_rfl) rfl #[] rfl (by (try simp only [List.map_toArray, List.map_cons, List.map_nil]); first | done | rfl | (simp only [List.length_drop, List.length_take]; rfl)) ?_; (with_reducible refine (l14_lives.calls k1  t427 _ A56.out).mono ?_); rintro e w58 ⟨rfl, hb⟩; refine ⟨_, rfl, ?_⟩; have n0_ := Aside0.mk (Kd.N_below (gN (HO_14.out)) hb); have n1_ := Aside0.mk (Kd.R_below (gR (HO_15.out)) hb); have n2_ := Aside0.mk (below_step (bl HB.out) hb); clear HO_14; clear HO_15; clear HB; have HO_14 := n0_; have HO_15 := n1_; have HB := n2_; clear n0_ n1_ n2_; (try clear hb); (try clear hb2); (try clear hk); (try clear hi)))
    go_ret
    exact ⟨by first | rfl | (simp [errW_none, errW_some] <;> rfl) | (simp [*, errW_none, errW_some] <;> rfl), bl HB.out⟩

/-- THE ONE PURE STATEMENT of l14_BoundsCloses: yours. -/
def l14_BoundsCloses.Pure : Prop := ∀ (l0 : List Int) (a1 : Int) (a2 : Int) (a3 : Int) (a4 : Int), l0.length ≤ maxLen → l0.length * 8 ≤ 140737488351232 → (∀ x ∈ l0, (Lit.int .i64 x).wf = true) → (Lit.int .i64 a1).wf = true → (Lit.int .i64 a2).wf = true → (Lit.int .i64 a3).wf = true → (Lit.int .i64 a4).wf = true → ∃ k, l14_BoundsCloses.f k l0 a1 a2 a3 a4 = some true
theorem l14_BoundsCloses.walk (P : l14_BoundsCloses.Pure) (a0 : Option Addr) (len0 cap0 : Nat) (z0 : List Int) (a1 : Int) (a2 : Int) (a3 : Int) (a4 : Int) (w : World) (w0 : (a0 = none ∧ len0 = 0 ∧ cap0 = 0 ∧ z0 = []) ∨ ∃ x, a0 = some x ∧ len0 ≤ cap0 ∧ cap0 ≤ maxLen ∧ z0.length = cap0 ∧ (∀ i, i < z0.length → w.cell? (x.add i) = some (.int .i64 (z0.getD i 0))) ∧ ∀ n ∈ z0, (Lit.int .i64 n).wf = true) (y0 : len0 * 8 ≤ 140737488351232) (w1 : (Lit.int .i64 a1).wf = true) (w2 : (Lit.int .i64 a2).wf = true) (w3 : (Lit.int .i64 a3).wf = true) (w4 : (Lit.int .i64 a4).wf = true) :
  Calls Try.prog 3 #[.slice a0 len0 cap0, .int .i64 a1, .int .i64 a2, .int .i64 a3, .int .i64 a4] w fun e w' => e = .returned (.bool true) ∧ Below w.heap.size w w' := by
 obtain ⟨l0, rfl, hr0, hm0, hw0, hc0⟩ := ReadsInt.ofRowC w0
 obtain ⟨k, h⟩ := P l0 a1 a2 a3 a4 hm0 y0 hw0 w1 w2 w3 w4
 refine (l14_BoundsCloses.calls k _ _ l0 a1 a2 a3 a4 true w (Kd.C_of_reads (d := (0 : Int)) (h1 := fun _ => rfl) hr0) hc0 h rfl).mono ?_
 rintro e w' ⟨rfl, hd⟩
 exact ⟨rfl, hd⟩

end Go.Proofs.Ytcnkjcbjlopkmaa.Q
