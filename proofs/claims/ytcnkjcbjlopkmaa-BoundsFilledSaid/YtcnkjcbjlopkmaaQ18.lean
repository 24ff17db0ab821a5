-- Written out of the translation by a program of this session (wip/tools/myprint.py, over the kit's print). Lean checks it.
import Derived.Test.YtcnkjcbjlopkmaaHol
import Derived.Test.YtcnkjcbjlopkmaaRan
import Derived.Test.YtcnkjcbjlopkmaaSh
import Derived.Test.YtcnkjcbjlopkmaaQ0
import Derived.Test.YtcnkjcbjlopkmaaQ1
import Derived.Test.YtcnkjcbjlopkmaaQ5
import Derived.Test.YtcnkjcbjlopkmaaQ11
import Derived.Test.YtcnkjcbjlopkmaaQ12
namespace Go.Proofs.Ytcnkjcbjlopkmaa.Q
open Go.RowKit Go.Proofs.YtcnkjcbjlopkmaaW.PrintWords Go.Proofs.YtcnkjcbjlopkmaaW.PrintLast Go.Proofs.YtcnkjcbjlopkmaaW.PrintMore
attribute [local go_sem] max2_int min2_int max_two min_two max_three min_three max_four min_four   -- for this text's walks alone
set_option linter.unusedVariables false
set_option linter.unusedSimpArgs false

/-! ### l14_BoundsFilled: function 6 -/
mutual
def l14_BoundsFilled.j0 : Nat → List Int → Int → List (S54) → Bool → Option (Bool)
 | 0, _, _, _, _ => none
 | k + 1, x1, x5, x6, x59 => if x59 = true then (some false) else (l14_BoundsFilled.l0 k x1 x5 x6 ([] : List (S55)) 0)
def l14_BoundsFilled.l0 : Nat → List Int → Int → List (S54) → List (S55) → Int → Option (Bool)
 | 0, _, _, _, _, _ => none
 | k + 1, x1, x5, x6, x9, x10 => if x10 < (x6.length : Int) then (if 0 ≤ x10 then (if ((rd_T54 x6 x10).f0) ≥ 0 then (if ((rd_T54 x6 x10).f1) ≥ 0 then (if x9.length < 5864062014805 then (l14_BoundsFilled.l0 k x1 x5 x6 (x9 ++ [(⟨wrap64 ((wrap64 (x5 - 1)) - ((rd_T54 x6 x10).f0)), wrap64 ((wrap64 (x5 - 1)) - ((rd_T54 x6 x10).f1)), (rd_T54 x6 x10).f2⟩ : S55)]) (wrap64 (x10 + 1))) else (none)) else (if x9.length < 5864062014805 then (l14_BoundsFilled.l0 k x1 x5 x6 (x9 ++ [(⟨wrap64 ((wrap64 (x5 - 1)) - ((rd_T54 x6 x10).f0)), (rd_T54 x6 x10).f1, (rd_T54 x6 x10).f2⟩ : S55)]) (wrap64 (x10 + 1))) else (none))) else (if ((rd_T54 x6 x10).f1) ≥ 0 then (if x9.length < 5864062014805 then (l14_BoundsFilled.l0 k x1 x5 x6 (x9 ++ [(⟨(rd_T54 x6 x10).f0, wrap64 ((wrap64 (x5 - 1)) - ((rd_T54 x6 x10).f1)), (rd_T54 x6 x10).f2⟩ : S55)]) (wrap64 (x10 + 1))) else (none)) else (if x9.length < 5864062014805 then (l14_BoundsFilled.l0 k x1 x5 x6 (x9 ++ [(⟨(rd_T54 x6 x10).f0, (rd_T54 x6 x10).f1, (rd_T54 x6 x10).f2⟩ : S55)]) (wrap64 (x10 + 1))) else (none)))) else (none)) else ((bounds_Fill.f k x5 x9 x1).bind fun bt636 => ((l14_own.f k x6).bind fun t640 => ((bounds_Close.f k x5 t640).bind fun bt643 => (if bt636.2 = 0 then (if bt643.2 = 0 then (l14_BoundsFilled.j2 k x5 x6 bt636.1 bt643.1 ((bt636.1.length : Int) != x5)) else (l14_BoundsFilled.j2 k x5 x6 bt636.1 bt643.1 true)) else (if bt636.2 = 5 then ((l14_lives.f k).bind fun t647 => (some t647)) else (some false))))))
def l14_BoundsFilled.j2 : Nat → Int → List (S54) → List Int → List (List Int) → Bool → Option (Bool)
 | 0, _, _, _, _, _ => none
 | k + 1, x5, x6, x12, x14, x132 => if x132 = true then (some false) else (l14_BoundsFilled.l1 k x5 x6 x12 x14 ([] : List Int) ([] : List Int) 0)
def l14_BoundsFilled.l1 : Nat → Int → List (S54) → List Int → List (List Int) → List Int → List Int → Int → Option (Bool)
 | 0, _, _, _, _, _, _, _ => none
 | k + 1, x5, x6, x12, x14, x16, x17, x18 => if x18 < x5 then (if 0 ≤ (wrap64 ((wrap64 (x5 - 1)) - x18)) then (if (wrap64 ((wrap64 (x5 - 1)) - x18)) < (x12.length : Int) then ((bounds_Range.f x14 x16).bind fun bt649 => (if bt649.2.2 = 0 then (if (rd x12 (wrap64 ((wrap64 (x5 - 1)) - x18))) < bt649.1 then (some false) else (if (rd x12 (wrap64 ((wrap64 (x5 - 1)) - x18))) > bt649.2.1 then (some false) else (if x17.length < 17592186044416 then (if x16.length < 17592186044416 then (l14_BoundsFilled.l1 k x5 x6 x12 x14 (x16 ++ [rd x12 (wrap64 ((wrap64 (x5 - 1)) - x18))]) (x17 ++ [wrap64 ((rd x12 (wrap64 ((wrap64 (x5 - 1)) - x18))) - bt649.1)]) (wrap64 (x18 + 1))) else (none)) else (none)))) else (some false))) else (none)) else (none)) else ((l14_own.f k x6).bind fun t658 => ((bounds_Fill.f k x5 t658 x17).bind fun bt661 => (if bt661.2 = 0 then ((r01_SameInts.f k bt661.1 x16).bind fun t665 => (if t665 = true then ((l14_own.f k x6).bind fun t666 => ((bounds_Holds.f t666 x16).bind fun t669 => (if t669 = (-1) then ((l14_lives.f k).bind fun t670 => (some t670)) else (some false)))) else (some false))) else (some false))))
end
def l14_BoundsFilled.f (k : Nat) (l0 : List Int) (l1 : List Int) : Option (Bool) := (r14_Made.f k l0).bind fun bt603 => ((l14_own.f k bt603.2).bind fun t607 => ((bounds_Fill.f k bt603.1 t607 l1).bind fun bt610 => (if bt610.2 = 0 then (if (bt610.1.length : Int) = bt603.1 then ((l14_own.f k bt603.2).bind fun t616 => ((bounds_Holds.f t616 bt610.1).bind fun t619 => (l14_BoundsFilled.j0 k l1 bt603.1 bt603.2 (t619 != (-1))))) else (l14_BoundsFilled.j0 k l1 bt603.1 bt603.2 true)) else (if bt610.2 = 14 then ((l14_lives.f k).bind fun t614 => (some t614)) else (if bt610.2 = 5 then ((l14_lives.f k).bind fun t615 => (some t615)) else (some false))))))
theorem l14_BoundsFilled.mono_l : ∀ k, (∀ y0 y1 y2 y3, LeO (l14_BoundsFilled.j0 k y0 y1 y2 y3) (l14_BoundsFilled.j0 (k + 1) y0 y1 y2 y3)) ∧ (∀ y0 y1 y2 y3 y4, LeO (l14_BoundsFilled.l0 k y0 y1 y2 y3 y4) (l14_BoundsFilled.l0 (k + 1) y0 y1 y2 y3 y4)) ∧ (∀ y0 y1 y2 y3 y4, LeO (l14_BoundsFilled.j2 k y0 y1 y2 y3 y4) (l14_BoundsFilled.j2 (k + 1) y0 y1 y2 y3 y4)) ∧ (∀ y0 y1 y2 y3 y4 y5 y6, LeO (l14_BoundsFilled.l1 k y0 y1 y2 y3 y4 y5 y6) (l14_BoundsFilled.l1 (k + 1) y0 y1 y2 y3 y4 y5 y6))
 | 0 => ⟨fun _ _ _ _ r h => by simp [l14_BoundsFilled.j0] at h, fun _ _ _ _ _ r h => by simp [l14_BoundsFilled.l0] at h, fun _ _ _ _ _ r h => by simp [l14_BoundsFilled.j2] at h, fun _ _ _ _ _ _ _ r h => by simp [l14_BoundsFilled.l1] at h⟩
 | k + 1 => by
  obtain ⟨ih0, ih1, ih2, ih3⟩ := l14_BoundsFilled.mono_l k
  refine ⟨?_, ?_, ?_, ?_⟩
  ·intro y0 y1 y2 y3
   unfold l14_BoundsFilled.j0
   repeat' first
   | (with_reducible exact ih0 _ _ _ _)
   | (with_reducible exact ih1 _ _ _ _ _)
   | (with_reducible exact ih2 _ _ _ _ _)
   | (with_reducible exact ih3 _ _ _ _ _ _ _)
   | (with_reducible exact bounds_Close.mono _ _ _)
   | (with_reducible exact bounds_Fill.mono _ _ _ _)
   | (with_reducible exact l14_lives.mono _)
   | (with_reducible exact l14_own.mono _ _)
   | (with_reducible exact r01_SameInts.mono _ _ _)
   | (with_reducible exact r14_Made.mono _ _)
   | (with_reducible exact LeO.refl _)
   | (with_reducible exact LeO.none _)
   | (with_reducible refine LeO.ite ?_ ?_)
   | (with_reducible refine LeO.bind ?_ (fun _ => ?_))
   | exact ih0 _ _ _ _
   | exact ih1 _ _ _ _ _
   | exact ih2 _ _ _ _ _
   | exact ih3 _ _ _ _ _ _ _
   | exact bounds_Close.mono _ _ _
   | exact bounds_Fill.mono _ _ _ _
   | exact l14_lives.mono _
   | exact l14_own.mono _ _
   | exact r01_SameInts.mono _ _ _
   | exact r14_Made.mono _ _
   | exact LeO.none _
   | refine LeO.ite ?_ ?_
   | refine LeO.bind ?_ (fun _ => ?_)
  ·intro y0 y1 y2 y3 y4
   unfold l14_BoundsFilled.l0
   repeat' first
   | (with_reducible exact ih0 _ _ _ _)
   | (with_reducible exact ih1 _ _ _ _ _)
   | (with_reducible exact ih2 _ _ _ _ _)
   | (with_reducible exact ih3 _ _ _ _ _ _ _)
   | (with_reducible exact bounds_Close.mono _ _ _)
   | (with_reducible exact bounds_Fill.mono _ _ _ _)
   | (with_reducible exact l14_lives.mono _)
   | (with_reducible exact l14_own.mono _ _)
   | (with_reducible exact r01_SameInts.mono _ _ _)
   | (with_reducible exact r14_Made.mono _ _)
   | (with_reducible exact LeO.refl _)
   | (with_reducible exact LeO.none _)
   | (with_reducible refine LeO.ite ?_ ?_)
   | (with_reducible refine LeO.bind ?_ (fun _ => ?_))
   | exact ih0 _ _ _ _
   | exact ih1 _ _ _ _ _
   | exact ih2 _ _ _ _ _
   | exact ih3 _ _ _ _ _ _ _
   | exact bounds_Close.mono _ _ _
   | exact bounds_Fill.mono _ _ _ _
   | exact l14_lives.mono _
   | exact l14_own.mono _ _
   | exact r01_SameInts.mono _ _ _
   | exact r14_Made.mono _ _
   | exact LeO.none _
   | refine LeO.ite ?_ ?_
   | refine LeO.bind ?_ (fun _ => ?_)
  ·intro y0 y1 y2 y3 y4
   unfold l14_BoundsFilled.j2
   repeat' first
   | (with_reducible exact ih0 _ _ _ _)
   | (with_reducible exact ih1 _ _ _ _ _)
   | (with_reducible exact ih2 _ _ _ _ _)
   | (with_reducible exact ih3 _ _ _ _ _ _ _)
   | (with_reducible exact bounds_Close.mono _ _ _)
   | (with_reducible exact bounds_Fill.mono _ _ _ _)
   | (with_reducible exact l14_lives.mono _)
   | (with_reducible exact l14_own.mono _ _)
   | (with_reducible exact r01_SameInts.mono _ _ _)
   | (with_reducible exact r14_Made.mono _ _)
   | (with_reducible exact LeO.refl _)
   | (with_reducible exact LeO.none _)
   | (with_reducible refine LeO.ite ?_ ?_)
   | (with_reducible refine LeO.bind ?_ (fun _ => ?_))
   | exact ih0 _ _ _ _
   | exact ih1 _ _ _ _ _
   | exact ih2 _ _ _ _ _
   | exact ih3 _ _ _ _ _ _ _
   | exact bounds_Close.mono _ _ _
   | exact bounds_Fill.mono _ _ _ _
   | exact l14_lives.mono _
   | exact l14_own.mono _ _
   | exact r01_SameInts.mono _ _ _
   | exact r14_Made.mono _ _
   | exact LeO.none _
   | refine LeO.ite ?_ ?_
   | refine LeO.bind ?_ (fun _ => ?_)
  ·intro y0 y1 y2 y3 y4 y5 y6
   unfold l14_BoundsFilled.l1
   repeat' first
   | (with_reducible exact ih0 _ _ _ _)
   | (with_reducible exact ih1 _ _ _ _ _)
   | (with_reducible exact ih2 _ _ _ _ _)
   | (with_reducible exact ih3 _ _ _ _ _ _ _)
   | (with_reducible exact bounds_Close.mono _ _ _)
   | (with_reducible exact bounds_Fill.mono _ _ _ _)
   | (with_reducible exact l14_lives.mono _)
   | (with_reducible exact l14_own.mono _ _)
   | (with_reducible exact r01_SameInts.mono _ _ _)
   | (with_reducible exact r14_Made.mono _ _)
   | (with_reducible exact LeO.refl _)
   | (with_reducible exact LeO.none _)
   | (with_reducible refine LeO.ite ?_ ?_)
   | (with_reducible refine LeO.bind ?_ (fun _ => ?_))
   | exact ih0 _ _ _ _
   | exact ih1 _ _ _ _ _
   | exact ih2 _ _ _ _ _
   | exact ih3 _ _ _ _ _ _ _
   | exact bounds_Close.mono _ _ _
   | exact bounds_Fill.mono _ _ _ _
   | exact l14_lives.mono _
   | exact l14_own.mono _ _
   | exact r01_SameInts.mono _ _ _
   | exact r14_Made.mono _ _
   | exact LeO.none _
   | refine LeO.ite ?_ ?_
   | refine LeO.bind ?_ (fun _ => ?_)
theorem l14_BoundsFilled.mono : ∀ a0 a1 k, LeO (l14_BoundsFilled.f k a0 a1) (l14_BoundsFilled.f (k + 1) a0 a1) := by
 intro a0 a1 k
 obtain ⟨ih0, ih1, ih2, ih3⟩ := l14_BoundsFilled.mono_l k
 unfold l14_BoundsFilled.f
 repeat' first
   | (with_reducible exact ih0 _ _ _ _)
   | (with_reducible exact ih1 _ _ _ _ _)
   | (with_reducible exact ih2 _ _ _ _ _)
   | (with_reducible exact ih3 _ _ _ _ _ _ _)
   | (with_reducible exact bounds_Close.mono _ _ _)
   | (with_reducible exact bounds_Fill.mono _ _ _ _)
   | (with_reducible exact l14_lives.mono _)
   | (with_reducible exact l14_own.mono _ _)
   | (with_reducible exact r01_SameInts.mono _ _ _)
   | (with_reducible exact r14_Made.mono _ _)
   | (with_reducible exact LeO.refl _)
   | (with_reducible exact LeO.none _)
   | (with_reducible refine LeO.ite ?_ ?_)
   | (with_reducible refine LeO.bind ?_ (fun _ => ?_))
   | exact ih0 _ _ _ _
   | exact ih1 _ _ _ _ _
   | exact ih2 _ _ _ _ _
   | exact ih3 _ _ _ _ _ _ _
   | exact bounds_Close.mono _ _ _
   | exact bounds_Fill.mono _ _ _ _
   | exact l14_lives.mono _
   | exact l14_own.mono _ _
   | exact r01_SameInts.mono _ _ _
   | exact r14_Made.mono _ _
   | exact LeO.none _
   | refine LeO.ite ?_ ?_
   | refine LeO.bind ?_ (fun _ => ?_)
def l14_BoundsFilled.T11 : Bool × List (List Nat × List Nat) := (true, [([], []), ([], []), ([0, 1], [0, 1]), ([2], [2]), ([3], [3]), ([], []), ([], []), ([5, 6], [5, 6]), ([7], [7]), ([8], [8]), ([], []), ([], []), ([10, 11], [10, 11]), ([12], [12]), ([13], [13]), ([4, 9, 14], [4, 9, 14]), ([], []), ([16, 15, 0, 1, 2, 3, 4, 5, 6, 7, 8, 9, 10, 11, 12, 13, 14, 15, 16], [15, 16])])
def l14_BoundsFilled.B11 : List Nat := [0, 0, 3, 7, 15, 0, 0, 96, 224, 480, 0, 0, 3072, 7168, 15360, 32767, 0, 131071]
theorem l14_BoundsFilled.tab11 : rtab .any (opsOf Try.f6 11) = l14_BoundsFilled.T11 := by kernel_rfl
theorem l14_BoundsFilled.bits11 : waitsOk l14_BoundsFilled.T11.2 l14_BoundsFilled.B11 = true := by kernel_rfl
/-- What the loop of Filled holds while a difference is being turned: the box of the difference, the two lists. -/
structure InvF (w : World) (gb : Nat) (vd : Value) (d : List S54) (vx : Value) (x : List S55) (a b c : Int) (W : World) : Prop where
 k : W.heap[gb]? = some (.cells #[.int .i64 a, .int .i64 b, .int .i64 c] 55 (0, 0))
 d : Kd.R k54 54 W w.heap.size (fun k => k ≠ gb) vd d
 x : Kd.R k55 55 W w.heap.size (fun k => k ≠ gb) vx x
 b : Below w.heap.size w W
 g : w.heap.size ≤ gb
theorem InvF.put0 {w : World} {gb : Nat} {vd : Value} {d : List S54} {vx : Value} {x : List S55} {a b c : Int} {W : World} (h : InvF w gb vd d vx x a b c W) (u : Int) : InvF w gb vd d vx x u b c (W.setCell ⟨gb, 0, none⟩ (.int .i64 u)) :=
 ⟨blk_put h.k 0 _ rfl, Kd.R_far (p := ⟨gb, 0, none⟩) h.d (fun _ hk => hk) _, Kd.R_far (p := ⟨gb, 0, none⟩) h.x (fun _ hk => hk) _, below_set h.b h.g, h.g⟩
theorem InvF.put1 {w : World} {gb : Nat} {vd : Value} {d : List S54} {vx : Value} {x : List S55} {a b c : Int} {W : World} (h : InvF w gb vd d vx x a b c W) (u : Int) : InvF w gb vd d vx x a u c (W.setCell ⟨gb, 1, none⟩ (.int .i64 u)) :=
 ⟨blk_put h.k 1 _ rfl, Kd.R_far (p := ⟨gb, 1, none⟩) h.d (fun _ hk => hk) _, Kd.R_far (p := ⟨gb, 1, none⟩) h.x (fun _ hk => hk) _, below_set h.b h.g, h.g⟩
theorem InvF.put2 {w : World} {gb : Nat} {vd : Value} {d : List S54} {vx : Value} {x : List S55} {a b c : Int} {W : World} (h : InvF w gb vd d vx x a b c W) (u : Int) : InvF w gb vd d vx x a b u (W.setCell ⟨gb, 2, none⟩ (.int .i64 u)) :=
 ⟨blk_put h.k 2 _ rfl, Kd.R_far (p := ⟨gb, 2, none⟩) h.d (fun _ hk => hk) _, Kd.R_far (p := ⟨gb, 2, none⟩) h.x (fun _ hk => hk) _, below_set h.b h.g, h.g⟩
set_option maxHeartbeats 8000000 in
set_option maxRecDepth 100000 in
theorem l14_BoundsFilled.calls (k : Nat) (A0 : Option Addr) (c0 : Nat) (l0 : List Int) (A1 : Option Addr) (c1 : Nat) (l1 : List Int) (r : Bool) (w : World) (hr0 : Kd.C (Kd.int .i64) w A0 l0.length l0) (hc0 : l0.length ≤ c0) (hr1 : Kd.C (Kd.int .i64) w A1 l1.length l1) (hc1 : l1.length ≤ c1) (h : l14_BoundsFilled.f k l0 l1 = some r) (ht : r = true) :
  Calls Try.prog 6 #[.slice A0 l0.length c0, .slice A1 l1.length c1] w fun e w' => e = .returned (.bool r) ∧ Below w.heap.size w w' := by
 have HT := Aside0.mk ht
 clear ht
 have hu55 := Try.underlying55
 have HR0 := Aside0.mk hr0
 have HC0 := Aside0.mk hc0
 clear hr0 hc0
 have HR1 := Aside0.mk hr1
 have HC1 := Aside0.mk hc1
 clear hr1 hc1
 have HB := Aside0.mk (Below.refl w.heap.size w)
 have H : ((r14_Made.f k l0).bind fun bt603 => ((l14_own.f k bt603.2).bind fun t607 => ((bounds_Fill.f k bt603.1 t607 l1).bind fun bt610 => (if bt610.2 = 0 then (if (bt610.1.length : Int) = bt603.1 then ((l14_own.f k bt603.2).bind fun t616 => ((bounds_Holds.f t616 bt610.1).bind fun t619 => (l14_BoundsFilled.j0 k l1 bt603.1 bt603.2 (t619 != (-1))))) else (l14_BoundsFilled.j0 k l1 bt603.1 bt603.2 true)) else (if bt610.2 = 14 then ((l14_lives.f k).bind fun t614 => (some t614)) else (if bt610.2 = 5 then ((l14_lives.f k).bind fun t615 => (some t615)) else (some false))))))) = some r := h
 clear h
 replace H := Option.bind_eq_some_iff.mp H
 obtain ⟨⟨t603, t604⟩, A30, H⟩ := H
 replace H : ((l14_own.f k t604).bind fun t607 => ((bounds_Fill.f k t603 t607 l1).bind fun bt610 => (if bt610.2 = 0 then (if (bt610.1.length : Int) = t603 then ((l14_own.f k t604).bind fun t616 => ((bounds_Holds.f t616 bt610.1).bind fun t619 => (l14_BoundsFilled.j0 k l1 t603 t604 (t619 != (-1))))) else (l14_BoundsFilled.j0 k l1 t603 t604 true)) else (if bt610.2 = 14 then ((l14_lives.f k).bind fun t614 => (some t614)) else (if bt610.2 = 5 then ((l14_lives.f k).bind fun t615 => (some t615)) else (some false)))))) = some r := H
 have A3 := Aside0.mk A30
 clear A30
 replace H := Option.bind_eq_some_iff.mp H
 obtain ⟨t607, A40, H⟩ := H
 replace H : ((bounds_Fill.f k t603 t607 l1).bind fun bt610 => (if bt610.2 = 0 then (if (bt610.1.length : Int) = t603 then ((l14_own.f k t604).bind fun t616 => ((bounds_Holds.f t616 bt610.1).bind fun t619 => (l14_BoundsFilled.j0 k l1 t603 t604 (t619 != (-1))))) else (l14_BoundsFilled.j0 k l1 t603 t604 true)) else (if bt610.2 = 14 then ((l14_lives.f k).bind fun t614 => (some t614)) else (if bt610.2 = 5 then ((l14_lives.f k).bind fun t615 => (some t615)) else (some false))))) = some r := H
 have A4 := Aside0.mk A40
 clear A40
 replace H := Option.bind_eq_some_iff.mp H
 obtain ⟨⟨t610, t611⟩, A50, H⟩ := H
 replace H : (if t611 = 0 then (if (t610.length : Int) = t603 then ((l14_own.f k t604).bind fun t616 => ((bounds_Holds.f t616 t610).bind fun t619 => (l14_BoundsFilled.j0 k l1 t603 t604 (t619 != (-1))))) else (l14_BoundsFilled.j0 k l1 t603 t604 true)) else (if t611 = 14 then ((l14_lives.f k).bind fun t614 => (some t614)) else (if t611 = 5 then ((l14_lives.f k).bind fun t615 => (some t615)) else (some false)))) = some r := H
 have A5 := Aside0.mk A50
 clear A50
 by_cases c6 : t611 = 0
 ·rw [if_pos c6] at H
  have c6b0 : (t611 == 0) = true := beq_iff_eq.mpr c6
  have c6b1 : (t611 != 0) = false := bne_eq_false_iff_eq.mpr c6
  clear c6
  have HC7 := Aside0.mk H
  clear H
  go_enter Try.func6, Try.ntmps6
  go_upto_region 5 with (first | ((with_reducible refine gate_callee (f := 9) rfl ?_); refine goesL_ (some 27) rfl rfl Try.func9 (by kernel_rfl) rfl #[.slice A0 l0.length c0] rfl (by (try simp only [List.map_toArray, List.map_cons, List.map_nil]); first | done | rfl | (simp only [List.length_drop, List.length_take]; rfl)) ?_; (with_reducible refine (r14_Made.calls k _ _ l0 t603 t604 _ ?side1 ?side2 A3.out).mono ?_); (case side1 => repeat (first | exact HR0.out | (with_reducible refine Kd.C_alloc ?_ _) | (with_reducible refine Kd.C_drewN ?_ _) | (with_reducible refine Kd.C_drew ?_))); (case side2 => exact HC0.out); rintro e w8 ⟨v605, rfl, ho0, hb⟩; refine ⟨_, rfl, ?_⟩; have n0_ := Aside0.mk (Kd.R_lower ho0 (below_size (by repeat (first | (with_reducible first | exact HB.out | apply below_alloc | apply pw_below_drewN | apply below_drew1) | exact HB.out)))); have n1_ := Aside0.mk (below_step (by repeat (first | (with_reducible first | exact HB.out | apply below_alloc | apply pw_below_drewN | apply below_drew1) | exact HB.out)) hb); clear HB; have HO606 := n0_; have HB := n1_; clear n0_ n1_; (try clear hb); (try clear hb2); (try clear hk); (try clear hi); (try clear ho0); obtain ⟨Ao9, co9, eo9⟩ := Kd.R_slice HO606.out; subst eo9) | ((with_reducible refine gate_callee (f := 13) rfl ?_); refine goesL_ (some 33) rfl rfl Try.func13 (by kernel_rfl) rfl #[.slice Ao9 t604.length co9] rfl (by (try simp only [List.map_toArray, List.map_cons, List.map_nil]); first | done | rfl | (simp only [List.length_drop, List.length_take]; rfl)) ?_; (with_reducible refine (l14_own.calls k _ _ t604 t607 _ ?side1 ?side2 A4.out).mono ?_); (case side1 => repeat (first | exact (Kd.R_reads' HO606.out).2.2 | (with_reducible refine Kd.C_alloc ?_ _) | (with_reducible refine Kd.C_drewN ?_ _) | (with_reducible refine Kd.C_drew ?_))); (case side2 => exact (Kd.R_reads' HO606.out).2.1); rintro e w10 ⟨v608, rfl, ho0, hb⟩; refine ⟨_, rfl, ?_⟩; have n0_ := Aside0.mk (Kd.R_below (by (with_reducible repeat (first | apply Kd.R_alloc | apply Kd.R_drewN | apply Kd.R_drew)); exact HO606.out) hb); have n1_ := Aside0.mk (Kd.R_lower ho0 (below_size (by repeat (first | (with_reducible first | exact HB.out | apply below_alloc | apply pw_below_drewN | apply below_drew1) | exact HB.out)))); have n2_ := Aside0.mk (below_step (by repeat (first | (with_reducible first | exact HB.out | apply below_alloc | apply pw_below_drewN | apply below_drew1) | exact HB.out)) hb); clear HO606; clear HB; have HO606 := n0_; have HO609 := n1_; have HB := n2_; clear n0_ n1_ n2_; (try clear hb); (try clear hb2); (try clear hk); (try clear hi); (try clear ho0); obtain ⟨Ao11, co11, eo11⟩ := Kd.R_slice HO609.out; subst eo11) | ((with_reducible refine gate_callee (f := 23) rfl ?_); refine goesL_ (some 35) rfl rfl Try.func23 (by kernel_rfl) rfl #[.int .i64 t603, .slice Ao11 t607.length co11, .slice A1 l1.length c1] rfl (by (try simp only [List.map_toArray, List.map_cons, List.map_nil]); first | done | rfl | (simp only [List.length_drop, List.length_take]; rfl)) ?_; (with_reducible refine (bounds_Fill.calls k t603 _ _ t607 _ _ l1 t610 t611 _ ?side1 ?side2 ?side3 ?side4 A5.out).mono ?_); (case side1 => repeat (first | exact (Kd.R_reads' HO609.out).2.2 | (with_reducible refine Kd.C_alloc ?_ _) | (with_reducible refine Kd.C_drewN ?_ _) | (with_reducible refine Kd.C_drew ?_))); (case side2 => exact (Kd.R_reads' HO609.out).2.1); (case side3 => repeat (first | exact (Kd.C_below HR1.out HB.out) | (with_reducible refine Kd.C_alloc ?_ _) | (with_reducible refine Kd.C_drewN ?_ _) | (with_reducible refine Kd.C_drew ?_))); (case side4 => exact HC1.out); rintro e w12 ⟨v612, rfl, ho0, hb⟩; refine ⟨_, rfl, ?_⟩; have n0_ := Aside0.mk (Kd.R_below (by (with_reducible repeat (first | apply Kd.R_alloc | apply Kd.R_drewN | apply Kd.R_drew)); exact HO606.out) hb); have n1_ := Aside0.mk (Kd.R_below (by (with_reducible repeat (first | apply Kd.R_alloc | apply Kd.R_drewN | apply Kd.R_drew)); exact HO609.out) hb); have n2_ := Aside0.mk (Kd.R_lower ho0 (below_size (by repeat (first | (with_reducible first | exact HB.out | apply below_alloc | apply pw_below_drewN | apply below_drew1) | exact HB.out)))); have n3_ := Aside0.mk (below_step (by repeat (first | (with_reducible first | exact HB.out | apply below_alloc | apply pw_below_drewN | apply below_drew1) | exact HB.out)) hb); clear HO606; clear HO609; clear HB; have HO606 := n0_; have HO609 := n1_; have HO613 := n2_; have HB := n3_; clear n0_ n1_ n2_ n3_; (try clear hb); (try clear hb2); (try clear hk); (try clear hi); (try clear ho0)))
  (try simp only [Act.put, List.setIfInBounds_toArray, List.set_cons_zero, List.set_cons_succ])
  go_cut [59] (fun v59 wc => ∃ (kq : Nat) (x59_6 : Bool), v59 = .bool x59_6 ∧ Aside0 (l14_BoundsFilled.j0 kq l1 t603 t604 x59_6 = some r) ∧ Aside0 (kq ≤ k) ∧ Aside0 (Kd.R k54 54 wc w.heap.size (fun _ => True) (.slice Ao9 t604.length co9) t604) ∧ Aside0 (Below w.heap.size w wc))
  case first =>
   have H := HC7.out
   clear HC7
   by_cases c13 : (t610.length : Int) = t603
   ·rw [if_pos c13] at H
    have c13b0 : ((t610.length : Int) == t603) = true := beq_iff_eq.mpr c13
    have c13b1 : ((t610.length : Int) != t603) = false := bne_eq_false_iff_eq.mpr c13
    clear c13
    (first | rw [c13b0] | (simp only [i64_w, i32_w]; rw [c13b0]) | skip)
    replace H := Option.bind_eq_some_iff.mp H
    obtain ⟨t616, A140, H⟩ := H
    replace H : ((bounds_Holds.f t616 t610).bind fun t619 => (l14_BoundsFilled.j0 k l1 t603 t604 (t619 != (-1)))) = some r := H
    have A14 := Aside0.mk A140
    clear A140
    replace H := Option.bind_eq_some_iff.mp H
    obtain ⟨t619, A150, H⟩ := H
    replace H : (l14_BoundsFilled.j0 k l1 t603 t604 (t619 != (-1))) = some r := H
    have A15 := Aside0.mk A150
    clear A150
    have H' := Aside0.mk H
    clear H
    obtain ⟨Ao16, co16, eo16⟩ := Kd.R_slice HO613.out
    subst eo16
    go_wp2_with (first | (go_at_call 13; (with_reducible refine (l14_own.calls k _ _ t604 t616 _ ?side1 ?side2 A14.out).mono ?_); (case side1 => repeat (first | exact (Kd.R_reads' HO606.out).2.2 | (with_reducible refine Kd.C_alloc ?_ _) | (with_reducible refine Kd.C_drewN ?_ _) | (with_reducible refine Kd.C_drew ?_))); (case side2 => exact (Kd.R_reads' HO606.out).2.1); rintro e w17 ⟨v617, rfl, ho0, hb⟩; have n0_ := Aside0.mk (Kd.R_below (by (with_reducible repeat (first | apply Kd.R_alloc | apply Kd.R_drewN | apply Kd.R_drew)); exact HO606.out) hb); have n1_ := Aside0.mk (Kd.R_elder' (by (with_reducible repeat (first | apply Kd.R_alloc | apply Kd.R_drewN | apply Kd.R_drew)); exact HO609.out) (Kd.R_base ho0) hb); have n2_ := Aside0.mk (Kd.R_below (by (with_reducible repeat (first | apply Kd.R_alloc | apply Kd.R_drewN | apply Kd.R_drew)); exact HO613.out) hb); have n3_ := Aside0.mk (Kd.R_lower (Kd.R_new' ho0 (Kd.R_lt (by (with_reducible repeat (first | apply Kd.R_alloc | apply Kd.R_drewN | apply Kd.R_drew)); exact HO609.out))) (below_size (by repeat (first | (with_reducible first | exact HB.out | apply below_alloc | apply pw_below_drewN | apply below_drew1) | exact HB.out)))); have n4_ := Aside0.mk (below_step (by repeat (first | (with_reducible first | exact HB.out | apply below_alloc | apply pw_below_drewN | apply below_drew1) | exact HB.out)) hb); clear HO606; clear HO609; clear HO613; clear HB; have HO606 := n0_; have HO609 := n1_; have HO613 := n2_; have HO618 := n3_; have HB := n4_; clear n0_ n1_ n2_ n3_ n4_; (try clear hb); (try clear hb2); (try clear hk); (try clear hi); (try clear ho0); obtain ⟨Ao18, co18, eo18⟩ := Kd.R_slice HO618.out; subst eo18) | (go_at_call 25; (with_reducible refine (bounds_Holds.calls _ _ t616 _ _ t610 t619 _ ?side1 ?side2 ?side3 ?side4 A15.out).mono ?_); (case side1 => repeat (first | exact (Kd.R_reads' HO618.out).2.2 | (with_reducible refine Kd.C_alloc ?_ _) | (with_reducible refine Kd.C_drewN ?_ _) | (with_reducible refine Kd.C_drew ?_))); (case side2 => exact (Kd.R_reads' HO618.out).2.1); (case side3 => repeat (first | exact (Kd.R_reads' HO613.out).2.2 | (with_reducible refine Kd.C_alloc ?_ _) | (with_reducible refine Kd.C_drewN ?_ _) | (with_reducible refine Kd.C_drew ?_))); (case side4 => exact (Kd.R_reads' HO613.out).2.1); rintro e w19 ⟨rfl, hb⟩; have n0_ := Aside0.mk (Kd.R_below (by (with_reducible repeat (first | apply Kd.R_alloc | apply Kd.R_drewN | apply Kd.R_drew)); exact HO606.out) hb); have n1_ := Aside0.mk (Kd.R_below (by (with_reducible repeat (first | apply Kd.R_alloc | apply Kd.R_drewN | apply Kd.R_drew)); exact HO609.out) hb); have n2_ := Aside0.mk (Kd.R_below (by (with_reducible repeat (first | apply Kd.R_alloc | apply Kd.R_drewN | apply Kd.R_drew)); exact HO613.out) hb); have n3_ := Aside0.mk (Kd.R_below (by (with_reducible repeat (first | apply Kd.R_alloc | apply Kd.R_drewN | apply Kd.R_drew)); exact HO618.out) hb); have n4_ := Aside0.mk (below_step (by repeat (first | (with_reducible first | exact HB.out | apply below_alloc | apply pw_below_drewN | apply below_drew1) | exact HB.out)) hb); clear HO606; clear HO609; clear HO613; clear HO618; clear HB; have HO606 := n0_; have HO609 := n1_; have HO613 := n2_; have HO618 := n3_; have HB := n4_; clear n0_ n1_ n2_ n3_ n4_; (try clear hb); (try clear hb2); (try clear hk); (try clear hi)))
    go_meet
    case rel => exact ⟨_, ((t619 != (-1))), (by first | rfl | (simp; done) | (simp [*]; done)), H', ⟨by first | omega | exact Nat.le_refl _⟩, ⟨by (with_reducible repeat (first | apply Kd.R_alloc | apply Kd.R_drewN | apply Kd.R_drew)); exact HO606.out⟩, ⟨by repeat (first | (with_reducible first | exact HB.out | apply below_alloc | apply pw_below_drewN | apply below_drew1) | exact HB.out)⟩⟩
   ·rw [if_neg c13] at H
    have c13b0 : ((t610.length : Int) == t603) = false := beq_eq_false_iff_ne.mpr c13
    have c13b1 : ((t610.length : Int) != t603) = true := bne_iff_ne.mpr c13
    (first | rw [c13b0] | (simp only [i64_w, i32_w]; rw [c13b0]) | skip)
    have H' := Aside0.mk H
    clear H
    obtain ⟨Ao20, co20, eo20⟩ := Kd.R_slice HO613.out
    subst eo20
    go_wp2
    go_meet
    case rel => exact ⟨_, (true), (by first | rfl | (simp; done) | (simp [*]; done)), H', ⟨by first | omega | exact Nat.le_refl _⟩, ⟨by (with_reducible repeat (first | apply Kd.R_alloc | apply Kd.R_drewN | apply Kd.R_drew)); exact HO606.out⟩, ⟨by repeat (first | (with_reducible first | exact HB.out | apply below_alloc | apply pw_below_drewN | apply below_drew1) | exact HB.out)⟩⟩
  case rest =>
   clear HC7
   try clear c1
   try clear c2
   try clear p2
   try clear c6
   try clear c6b0
   try clear c6b1
   try clear c9
   try clear c13
   try clear c13b0
   try clear c13b1
   obtain ⟨kq, x59_6, rfl, HA, HJ6, HO_6, HB⟩ := hcut
   cases kq with
   | zero => exact absurd HA.out (by simp [l14_BoundsFilled.j0])
   | succ kj6 =>
    have H := HA.out
    clear HA
    simp only [l14_BoundsFilled.j0] at H
    by_cases c21 : x59_6 = true
    ·subst c21
     have H1 : (some false) = some r := by rw [if_pos rfl] at H; exact H
     clear H
     have H := H1
     clear H1
     exact absurd H (by rw [HT.out]; simp)
    ·replace c21 := Bool.eq_false_iff.mpr c21
     subst c21
     have H1 : (l14_BoundsFilled.l0 kj6 l1 t603 t604 ([] : List (S55)) 0) = some r := by rw [if_neg (show ¬ (false = true) by decide)] at H; exact H
     clear H
     have H := H1
     clear H1
     have H' := Aside0.mk H
     clear H
     go_wp2
     go_loopg [9, 10] kj6 (fun kq v9 v10 w' => ∃ (x9_2 : List (S55)) (x10_2 : Int), v10 = .int .i64 x10_2 ∧ Aside0 (l14_BoundsFilled.l0 kq l1 t603 t604 x9_2 x10_2 = some r) ∧ Aside0 (kq ≤ kj6) ∧ Aside0 (Kd.R k54 54 w' w.heap.size (fun _ => True) (.slice Ao9 t604.length co9) t604) ∧ Aside0 (Kd.R k55 55 w' w.heap.size (fun _ => True) v9 x9_2) ∧ Aside0 (Below w.heap.size w w'))
     case atStart => exact ⟨(([] : List (S55))), (0), (by first | rfl | (simp; done) | (simp [*]; done)), H', ⟨Nat.le_refl _⟩, ⟨by (with_reducible repeat (first | apply Kd.R_alloc | apply Kd.R_drewN | apply Kd.R_drew)); exact HO_6.out⟩, ⟨by first | exact Kd.R_nil _ _ _ _ _ | exact Kd.N_nil _ _ _ _ _ | exact Kd.V_nil _ _ _ _ _ | exact Kd.Q_nil _ _ _ _ _ | exact Kd.S_nil _ _ _ _ _⟩, ⟨by repeat (first | (with_reducible first | exact HB.out | apply below_alloc | apply pw_below_drewN | apply below_drew1) | exact HB.out)⟩⟩
     case round =>
      clear H'
      try clear c1
      try clear c2
      try clear p2
      try clear c6
      try clear c6b0
      try clear c6b1
      try clear c9
      try clear c13
      try clear c13b0
      try clear c13b1
      try clear c21
      try clear p2
      obtain ⟨x9_2, x10_2, rfl, HA, HK2, HO_6, HO_9, HB⟩ := hrel
      cases gk with
      | zero => exact absurd HA.out (by simp [l14_BoundsFilled.l0])
      | succ k2 =>
       have H := HA.out
       clear HA
       simp only [l14_BoundsFilled.l0] at H
       by_cases c22 : x10_2 < (t604.length : Int)
       ·rw [if_pos c22] at H
        have c22b0 : decide (x10_2 < (t604.length : Int)) = true := decide_eq_true c22
        clear c22
        by_cases c23 : 0 ≤ x10_2
        ·rw [if_pos c23] at H
         have c23b0 : decide (0 ≤ x10_2) = true := decide_eq_true c23
         clear c23
         try go_wp2
         have n0_ := Aside0.mk (Kd.R_drew HO_6.out)
         have n1_ := Aside0.mk (Kd.R_drew HO_9.out)
         have n2_ := Aside0.mk (below_drew1 HB.out)
         clear HO_6
         clear HO_9
         clear HB
         have HO_6 := n0_
         have HO_9 := n1_
         have HB := n2_
         clear n0_ n1_ n2_
         have p620 : 0 ≤ (x10_2 : Int) := of_decide_eq_true (by first | (with_reducible assumption) | assumption)
         have q620 : x10_2 < (t604.length : Int) := of_decide_eq_true (by first | (with_reducible assumption) | assumption)
         obtain ⟨ad620, e620, hx620_0, hx620_1, hx620_2⟩ := at_T54 (Kd.R_reads' HO_6.out).2.2 x10_2 p620 q620
         cases e620
         replace p620 := eq_true p620
         replace q620 := eq_true q620
         have p621 : 0 ≤ (x10_2 : Int) := of_decide_eq_true (by first | (with_reducible assumption) | assumption)
         have q621 : x10_2 < (t604.length : Int) := of_decide_eq_true (by first | (with_reducible assumption) | assumption)
         obtain ⟨ad621, e621, hx621_0, hx621_1, hx621_2⟩ := at_T54 (Kd.R_reads' HO_6.out).2.2 x10_2 p621 q621
         obtain rfl : ad620 = ad621 := (by injection e621)
         replace p621 := eq_true p621
         replace q621 := eq_true q621
         have p622 : 0 ≤ (x10_2 : Int) := of_decide_eq_true (by first | (with_reducible assumption) | assumption)
         have q622 : x10_2 < (t604.length : Int) := of_decide_eq_true (by first | (with_reducible assumption) | assumption)
         obtain ⟨ad622, e622, hx622_0, hx622_1, hx622_2⟩ := at_T54 (Kd.R_reads' HO_6.out).2.2 x10_2 p622 q622
         obtain rfl : ad620 = ad622 := (by injection e622)
         replace p622 := eq_true p622
         replace q622 := eq_true q622
         refine start_ (n := 18) (S := fun w' => w'.cell? (ad620.add ((x10_2).toNat * 3)) = some (.int .i64 ((rd_T54 t604 x10_2).f0)) ∧ w'.cell? ⟨(ad620.add ((x10_2).toNat * 3)).block, (ad620.add ((x10_2).toNat * 3)).off + 1, none⟩ = some (.int .i64 ((rd_T54 t604 x10_2).f1)) ∧ w'.cell? ⟨(ad620.add ((x10_2).toNat * 3)).block, (ad620.add ((x10_2).toNat * 3)).off + 2, none⟩ = some (.int .i64 ((rd_T54 t604 x10_2).f2)) ∧ w'.cell? (ad620.add ((x10_2).toNat * 3)) = some (.int .i64 ((rd_T54 t604 x10_2).f0)) ∧ w'.cell? ⟨(ad620.add ((x10_2).toNat * 3)).block, (ad620.add ((x10_2).toNat * 3)).off + 1, none⟩ = some (.int .i64 ((rd_T54 t604 x10_2).f1)) ∧ w'.cell? ⟨(ad620.add ((x10_2).toNat * 3)).block, (ad620.add ((x10_2).toNat * 3)).off + 2, none⟩ = some (.int .i64 ((rd_T54 t604 x10_2).f2)) ∧ w'.cell? (ad620.add ((x10_2).toNat * 3)) = some (.int .i64 ((rd_T54 t604 x10_2).f0)) ∧ w'.cell? ⟨(ad620.add ((x10_2).toNat * 3)).block, (ad620.add ((x10_2).toNat * 3)).off + 1, none⟩ = some (.int .i64 ((rd_T54 t604 x10_2).f1)) ∧ w'.cell? ⟨(ad620.add ((x10_2).toNat * 3)).block, (ad620.add ((x10_2).toNat * 3)).off + 2, none⟩ = some (.int .i64 ((rd_T54 t604 x10_2).f2))) (ds := []) #[false, false, false, false, false, false, false, false, false, false, false, false, false, false, false, false, false, false] (by kernel_rfl) rfl rfl ⟨hx620_0, hx620_1, hx620_2, hx621_0, hx621_1, hx621_2, hx622_0, hx622_1, hx622_2⟩ (fun hHeld => ?_); refine with_tabW l14_BoundsFilled.tab11 l14_BoundsFilled.bits11 (fun HT_ HW_ => ?_)
         generalize wr.drew = w27 at HO_6 HO_9 HB hx620_0 hx620_1 hx620_2 hx621_0 hx621_1 hx621_2 hx622_0 hx622_1 hx622_2 hHeld ⊢
         refine pS_ 0 (some 66) rfl rfl HT_.out (by kernel_rfl) ?_ (fun _ _ _ h => h) (by rfl) ?_ ?_ ?_ ?_
         rotate_left
         ·intro w'
          go_simp
          with_reducible rfl
         rotate_left
         ·simp only [Act.put, List.setIfInBounds_toArray, List.set_cons_zero, List.set_cons_succ, i64_w, i32_w]
          rfl
         refine pS_ 1 (some 67) rfl rfl HT_.out (by kernel_rfl) ?_ (fun _ _ _ h => h) (by rfl) ?_ ?_ ?_ ?_
         rotate_left
         ·intro w'
          go_simp
          with_reducible rfl
         rotate_left
         ·simp only [Act.put, List.setIfInBounds_toArray, List.set_cons_zero, List.set_cons_succ, i64_w, i32_w]
          rfl
         refine pS_ 2 (some 68) rfl rfl HT_.out (by kernel_rfl) ?_ (fun _ _ _ h => h) (by rfl) ?_ ?_ ?_ ?_
         rotate_left
         ·intro w'
          go_simp
          with_reducible rfl
         rotate_left
         ·simp only [Act.put, List.setIfInBounds_toArray, List.set_cons_zero, List.set_cons_succ, i64_w, i32_w]
          rfl
         refine pS_ 3 (some 69) rfl rfl HT_.out (by kernel_rfl) ?_ (fun _ _ _ h => h) (by rfl) ?_ ?_ ?_ ?_
         rotate_left
         ·intro w'
          go_simp
          with_reducible rfl
         rotate_left
         ·simp only [Act.put, List.setIfInBounds_toArray, List.set_cons_zero, List.set_cons_succ, i64_w, i32_w]
          rfl
         refine pS_ 5 (some 71) rfl rfl HT_.out (by kernel_rfl) ?_ (fun _ _ _ h => h) (by rfl) ?_ ?_ ?_ ?_
         rotate_left
         ·intro w'
          go_simp
          with_reducible rfl
         rotate_left
         ·simp only [Act.put, List.setIfInBounds_toArray, List.set_cons_zero, List.set_cons_succ, i64_w, i32_w]
          rfl
         refine pS_ 6 (some 72) rfl rfl HT_.out (by kernel_rfl) ?_ (fun _ _ _ h => h) (by rfl) ?_ ?_ ?_ ?_
         rotate_left
         ·intro w'
          go_simp
          with_reducible rfl
         rotate_left
         ·simp only [Act.put, List.setIfInBounds_toArray, List.set_cons_zero, List.set_cons_succ, i64_w, i32_w]
          rfl
         refine pS_ 7 (some 73) rfl rfl HT_.out (by kernel_rfl) ?_ (fun _ _ _ h => h) (by rfl) ?_ ?_ ?_ ?_
         rotate_left
         ·intro w'
          go_simp
          with_reducible rfl
         rotate_left
         ·simp only [Act.put, List.setIfInBounds_toArray, List.set_cons_zero, List.set_cons_succ, i64_w, i32_w]
          rfl
         refine pS_ 8 (some 74) rfl rfl HT_.out (by kernel_rfl) ?_ (fun _ _ _ h => h) (by rfl) ?_ ?_ ?_ ?_
         rotate_left
         ·intro w'
          go_simp
          with_reducible rfl
         rotate_left
         ·simp only [Act.put, List.setIfInBounds_toArray, List.set_cons_zero, List.set_cons_succ, i64_w, i32_w]
          rfl
         refine pS_ 10 (some 76) rfl rfl HT_.out (by kernel_rfl) ?_ (fun _ _ _ h => h) (by rfl) ?_ ?_ ?_ ?_
         rotate_left
         ·intro w'
          go_simp
          with_reducible rfl
         rotate_left
         ·simp only [Act.put, List.setIfInBounds_toArray, List.set_cons_zero, List.set_cons_succ, i64_w, i32_w]
          rfl
         refine pS_ 11 (some 77) rfl rfl HT_.out (by kernel_rfl) ?_ (fun _ _ _ h => h) (by rfl) ?_ ?_ ?_ ?_
         rotate_left
         ·intro w'
          go_simp
          with_reducible rfl
         rotate_left
         ·simp only [Act.put, List.setIfInBounds_toArray, List.set_cons_zero, List.set_cons_succ, i64_w, i32_w]
          rfl
         refine pS_ 12 (some 78) rfl rfl HT_.out (by kernel_rfl) ?_ (fun _ _ _ h => h) (by rfl) ?_ ?_ ?_ ?_
         rotate_left
         ·intro w'
          go_simp
          with_reducible rfl
         rotate_left
         ·simp only [Act.put, List.setIfInBounds_toArray, List.set_cons_zero, List.set_cons_succ, i64_w, i32_w]
          rfl
         refine pS_ 13 (some 79) rfl rfl HT_.out (by kernel_rfl) ?_ (fun _ _ _ h => h) (by rfl) ?_ ?_ ?_ ?_
         rotate_left
         ·intro w'
          go_simp
          with_reducible rfl
         rotate_left
         ·simp only [Act.put, List.setIfInBounds_toArray, List.set_cons_zero, List.set_cons_succ, i64_w, i32_w]
          rfl
         refine take_ (i := 4) (N := some 70) (v := ?_) (a' := ?_) #[true, true, true, true, true, true, true, true, true, false, true, true, true, true, false, false, false, false] rfl rfl (take_ofW HT_.out HW_.out (by kernel_rfl)) (fun _ _ _ h => h) (Or.inl ⟨by rfl, ?_⟩) hHeld ?_ ?_
         rotate_left
         ·rintro w' ⟨s0, s1, s2, s3, s4, s5, s6, s7, s8⟩
          go_simp
          with_reducible rfl
         rotate_left
         ·simp only [Act.put, List.setIfInBounds_toArray, List.set_cons_zero, List.set_cons_succ, i64_w, i32_w]
          rfl
         refine take_ (i := 9) (N := some 75) (v := ?_) (a' := ?_) #[true, true, true, true, true, true, true, true, true, true, true, true, true, true, false, false, false, false] rfl rfl (take_ofW HT_.out HW_.out (by kernel_rfl)) (fun _ _ _ h => h) (Or.inl ⟨by rfl, ?_⟩) hHeld ?_ ?_
         rotate_left
         ·rintro w' ⟨s0, s1, s2, s3, s4, s5, s6, s7, s8⟩
          go_simp
          with_reducible rfl
         rotate_left
         ·simp only [Act.put, List.setIfInBounds_toArray, List.set_cons_zero, List.set_cons_succ, i64_w, i32_w]
          rfl
         refine take_ (i := 14) (N := some 80) (v := ?_) (a' := ?_) #[true, true, true, true, true, true, true, true, true, true, true, true, true, true, true, false, false, false] rfl rfl (take_ofW HT_.out HW_.out (by kernel_rfl)) (fun _ _ _ h => h) (Or.inl ⟨by rfl, ?_⟩) hHeld ?_ ?_
         rotate_left
         ·rintro w' ⟨s0, s1, s2, s3, s4, s5, s6, s7, s8⟩
          go_simp
          with_reducible rfl
         rotate_left
         ·simp only [Act.put, List.setIfInBounds_toArray, List.set_cons_zero, List.set_cons_succ, i64_w, i32_w]
          rfl
         refine pS_ 15 (some 81) rfl rfl HT_.out (by kernel_rfl) ?_ (fun _ _ _ h => h) (by rfl) ?_ ?_ ?_ ?_
         rotate_left
         ·intro w'
          go_simp
          with_reducible rfl
         rotate_left
         ·simp only [Act.put, List.setIfInBounds_toArray, List.set_cons_zero, List.set_cons_succ, i64_w, i32_w]
          rfl
         refine one_ (i := 16) (N := some 11) #[true, true, true, true, true, true, true, true, true, true, true, true, true, true, true, true, true, false] rfl rfl (one_of HT_.out (by kernel_rfl)) (by decide) (fun K hK => ?_)
         refine box_step ?hg (N := 11) ?hd (cs := #[.int .i64 0, .int .i64 0, .int .i64 0]) (t := 55) ?hr ?_; (case hd => rfl); (case hg => rfl); (case hr => first | (go_simp; done) | (go_simp; rfl))
         intro gb623 hg w28 hbox hb
         have HS0_ := (hb.cell (World.block_lt_of_cell? _ _ (hHeld.1))).trans (hHeld.1)
         have HS1_ := (hb.cell (World.block_lt_of_cell? _ _ (hHeld.2.1))).trans (hHeld.2.1)
         have HS2_ := (hb.cell (World.block_lt_of_cell? _ _ (hHeld.2.2.1))).trans (hHeld.2.2.1)
         have HS3_ := (hb.cell (World.block_lt_of_cell? _ _ (hHeld.2.2.2.1))).trans (hHeld.2.2.2.1)
         have HS4_ := (hb.cell (World.block_lt_of_cell? _ _ (hHeld.2.2.2.2.1))).trans (hHeld.2.2.2.2.1)
         have HS5_ := (hb.cell (World.block_lt_of_cell? _ _ (hHeld.2.2.2.2.2.1))).trans (hHeld.2.2.2.2.2.1)
         have HS6_ := (hb.cell (World.block_lt_of_cell? _ _ (hHeld.2.2.2.2.2.2.1))).trans (hHeld.2.2.2.2.2.2.1)
         have HS7_ := (hb.cell (World.block_lt_of_cell? _ _ (hHeld.2.2.2.2.2.2.2.1))).trans (hHeld.2.2.2.2.2.2.2.1)
         have HS8_ := (hb.cell (World.block_lt_of_cell? _ _ (hHeld.2.2.2.2.2.2.2.2))).trans (hHeld.2.2.2.2.2.2.2.2)
         have n0_ := Aside0.mk (Kd.R_below (by (with_reducible repeat (first | apply Kd.R_alloc | apply Kd.R_drewN | apply Kd.R_drew)); exact HO_6.out) hb)
         have n1_ := Aside0.mk (Kd.R_below (Kd.R_elderB (by (with_reducible repeat (first | apply Kd.R_alloc | apply Kd.R_drewN | apply Kd.R_drew)); exact HO_9.out) gb623 (Nat.le_of_eq hg.symm)) hb)
         have n2_ := Aside0.mk (below_step (by repeat (first | (with_reducible first | exact HB.out | apply below_alloc | apply pw_below_drewN | apply below_drew1) | exact HB.out)) hb)
         have n3_ := Aside0.mk (hbox)
         have n4_ := Aside0.mk ((by rw [hg]; exact (below_size (by repeat (first | (with_reducible first | exact HB.out | apply below_alloc | apply pw_below_drewN | apply below_drew1) | exact HB.out))) : w.heap.size ≤ gb623))
         have n5_ := Aside0.mk ((by rw [hg]; exact (below_size (by repeat (first | (with_reducible first | exact HB.out | apply below_alloc | apply pw_below_drewN | apply below_drew1) | exact HB.out))) : w.heap.size ≤ gb623))
         clear HO_6
         clear HO_9
         clear HB
         have HO_6 := n0_
         have HO_9 := n1_
         have HB := n2_
         have BK623 := n3_
         have GW623 := n4_
         have GE623 := n5_
         clear n0_ n1_ n2_ n3_ n4_ n5_
         clear hb hbox hg
         refine hK.out _ _ ⟨HS0_, HS1_, HS2_, HS3_, HS4_, HS5_, HS6_, HS7_, HS8_⟩ (fun hHeld => ?_)
         clear hK K
         refine norm_ (a' := ?_) ?_ ?_
         rotate_left
         ·show Act.put _ (some 11) _ = _
          simp only [Act.put, List.setIfInBounds_toArray, List.set_cons_zero, List.set_cons_succ, i64_w, i32_w]
          rfl
         refine one_ (i := 17) (N := none) #[true, true, true, true, true, true, true, true, true, true, true, true, true, true, true, true, true, true] rfl rfl (one_of HT_.out (by kernel_rfl)) (by decide) (fun K hK => ?_)
         have hs29 : w28.cell? ⟨gb623, 0, none⟩ = some (.int .i64 0) := (blk_cell BK623.out 0).trans rfl
         have hfs29 := blk_frozen BK623.out 0
         have hs30 : w28.cell? ⟨gb623, 1, none⟩ = some (.int .i64 0) := (blk_cell BK623.out 1).trans rfl
         have hfs30 := blk_frozen BK623.out 1
         have hs31 : w28.cell? ⟨gb623, 2, none⟩ = some (.int .i64 0) := (blk_cell BK623.out 2).trans rfl
         have hfs31 := blk_frozen BK623.out 2
         refine skip_ (w1 := ?_) (by rfl) rfl ?_ ?_
         rotate_left
         ·go_simp
          rfl
         refine hK.out _ _ ⟨((cell_far (p := ⟨gb623, _, none⟩) (by first | exact Kd.own_blk (Kd.R_ne HO_6.out BK623.out (by decide)) | (rw [add_block]; exact Kd.own_blk (Kd.R_ne HO_6.out BK623.out (by decide))) | (show (Addr.add _ _).block ≠ _; rw [add_block]; exact Kd.own_blk (Kd.R_ne HO_6.out BK623.out (by decide))) | (dsimp only; exact Kd.own_blk (Kd.R_ne HO_6.out BK623.out (by decide)))) _).trans (((cell_far (p := ⟨gb623, _, none⟩) (by first | exact Kd.own_blk (Kd.R_ne HO_6.out BK623.out (by decide)) | (rw [add_block]; exact Kd.own_blk (Kd.R_ne HO_6.out BK623.out (by decide))) | (show (Addr.add _ _).block ≠ _; rw [add_block]; exact Kd.own_blk (Kd.R_ne HO_6.out BK623.out (by decide))) | (dsimp only; exact Kd.own_blk (Kd.R_ne HO_6.out BK623.out (by decide)))) _).trans (((cell_far (p := ⟨gb623, _, none⟩) (by first | exact Kd.own_blk (Kd.R_ne HO_6.out BK623.out (by decide)) | (rw [add_block]; exact Kd.own_blk (Kd.R_ne HO_6.out BK623.out (by decide))) | (show (Addr.add _ _).block ≠ _; rw [add_block]; exact Kd.own_blk (Kd.R_ne HO_6.out BK623.out (by decide))) | (dsimp only; exact Kd.own_blk (Kd.R_ne HO_6.out BK623.out (by decide)))) _).trans (hHeld.1)))))), ((cell_far (p := ⟨gb623, _, none⟩) (by first | exact Kd.own_blk (Kd.R_ne HO_6.out BK623.out (by decide)) | (rw [add_block]; exact Kd.own_blk (Kd.R_ne HO_6.out BK623.out (by decide))) | (show (Addr.add _ _).block ≠ _; rw [add_block]; exact Kd.own_blk (Kd.R_ne HO_6.out BK623.out (by decide))) | (dsimp only; exact Kd.own_blk (Kd.R_ne HO_6.out BK623.out (by decide)))) _).trans (((cell_far (p := ⟨gb623, _, none⟩) (by first | exact Kd.own_blk (Kd.R_ne HO_6.out BK623.out (by decide)) | (rw [add_block]; exact Kd.own_blk (Kd.R_ne HO_6.out BK623.out (by decide))) | (show (Addr.add _ _).block ≠ _; rw [add_block]; exact Kd.own_blk (Kd.R_ne HO_6.out BK623.out (by decide))) | (dsimp only; exact Kd.own_blk (Kd.R_ne HO_6.out BK623.out (by decide)))) _).trans (((cell_far (p := ⟨gb623, _, none⟩) (by first | exact Kd.own_blk (Kd.R_ne HO_6.out BK623.out (by decide)) | (rw [add_block]; exact Kd.own_blk (Kd.R_ne HO_6.out BK623.out (by decide))) | (show (Addr.add _ _).block ≠ _; rw [add_block]; exact Kd.own_blk (Kd.R_ne HO_6.out BK623.out (by decide))) | (dsimp only; exact Kd.own_blk (Kd.R_ne HO_6.out BK623.out (by decide)))) _).trans (hHeld.2.1)))))), ((cell_far (p := ⟨gb623, _, none⟩) (by first | exact Kd.own_blk (Kd.R_ne HO_6.out BK623.out (by decide)) | (rw [add_block]; exact Kd.own_blk (Kd.R_ne HO_6.out BK623.out (by decide))) | (show (Addr.add _ _).block ≠ _; rw [add_block]; exact Kd.own_blk (Kd.R_ne HO_6.out BK623.out (by decide))) | (dsimp only; exact Kd.own_blk (Kd.R_ne HO_6.out BK623.out (by decide)))) _).trans (((cell_far (p := ⟨gb623, _, none⟩) (by first | exact Kd.own_blk (Kd.R_ne HO_6.out BK623.out (by decide)) | (rw [add_block]; exact Kd.own_blk (Kd.R_ne HO_6.out BK623.out (by decide))) | (show (Addr.add _ _).block ≠ _; rw [add_block]; exact Kd.own_blk (Kd.R_ne HO_6.out BK623.out (by decide))) | (dsimp only; exact Kd.own_blk (Kd.R_ne HO_6.out BK623.out (by decide)))) _).trans (((cell_far (p := ⟨gb623, _, none⟩) (by first | exact Kd.own_blk (Kd.R_ne HO_6.out BK623.out (by decide)) | (rw [add_block]; exact Kd.own_blk (Kd.R_ne HO_6.out BK623.out (by decide))) | (show (Addr.add _ _).block ≠ _; rw [add_block]; exact Kd.own_blk (Kd.R_ne HO_6.out BK623.out (by decide))) | (dsimp only; exact Kd.own_blk (Kd.R_ne HO_6.out BK623.out (by decide)))) _).trans (hHeld.2.2.1)))))), ((cell_far (p := ⟨gb623, _, none⟩) (by first | exact Kd.own_blk (Kd.R_ne HO_6.out BK623.out (by decide)) | (rw [add_block]; exact Kd.own_blk (Kd.R_ne HO_6.out BK623.out (by decide))) | (show (Addr.add _ _).block ≠ _; rw [add_block]; exact Kd.own_blk (Kd.R_ne HO_6.out BK623.out (by decide))) | (dsimp only; exact Kd.own_blk (Kd.R_ne HO_6.out BK623.out (by decide)))) _).trans (((cell_far (p := ⟨gb623, _, none⟩) (by first | exact Kd.own_blk (Kd.R_ne HO_6.out BK623.out (by decide)) | (rw [add_block]; exact Kd.own_blk (Kd.R_ne HO_6.out BK623.out (by decide))) | (show (Addr.add _ _).block ≠ _; rw [add_block]; exact Kd.own_blk (Kd.R_ne HO_6.out BK623.out (by decide))) | (dsimp only; exact Kd.own_blk (Kd.R_ne HO_6.out BK623.out (by decide)))) _).trans (((cell_far (p := ⟨gb623, _, none⟩) (by first | exact Kd.own_blk (Kd.R_ne HO_6.out BK623.out (by decide)) | (rw [add_block]; exact Kd.own_blk (Kd.R_ne HO_6.out BK623.out (by decide))) | (show (Addr.add _ _).block ≠ _; rw [add_block]; exact Kd.own_blk (Kd.R_ne HO_6.out BK623.out (by decide))) | (dsimp only; exact Kd.own_blk (Kd.R_ne HO_6.out BK623.out (by decide)))) _).trans (hHeld.2.2.2.1)))))), ((cell_far (p := ⟨gb623, _, none⟩) (by first | exact Kd.own_blk (Kd.R_ne HO_6.out BK623.out (by decide)) | (rw [add_block]; exact Kd.own_blk (Kd.R_ne HO_6.out BK623.out (by decide))) | (show (Addr.add _ _).block ≠ _; rw [add_block]; exact Kd.own_blk (Kd.R_ne HO_6.out BK623.out (by decide))) | (dsimp only; exact Kd.own_blk (Kd.R_ne HO_6.out BK623.out (by decide)))) _).trans (((cell_far (p := ⟨gb623, _, none⟩) (by first | exact Kd.own_blk (Kd.R_ne HO_6.out BK623.out (by decide)) | (rw [add_block]; exact Kd.own_blk (Kd.R_ne HO_6.out BK623.out (by decide))) | (show (Addr.add _ _).block ≠ _; rw [add_block]; exact Kd.own_blk (Kd.R_ne HO_6.out BK623.out (by decide))) | (dsimp only; exact Kd.own_blk (Kd.R_ne HO_6.out BK623.out (by decide)))) _).trans (((cell_far (p := ⟨gb623, _, none⟩) (by first | exact Kd.own_blk (Kd.R_ne HO_6.out BK623.out (by decide)) | (rw [add_block]; exact Kd.own_blk (Kd.R_ne HO_6.out BK623.out (by decide))) | (show (Addr.add _ _).block ≠ _; rw [add_block]; exact Kd.own_blk (Kd.R_ne HO_6.out BK623.out (by decide))) | (dsimp only; exact Kd.own_blk (Kd.R_ne HO_6.out BK623.out (by decide)))) _).trans (hHeld.2.2.2.2.1)))))), ((cell_far (p := ⟨gb623, _, none⟩) (by first | exact Kd.own_blk (Kd.R_ne HO_6.out BK623.out (by decide)) | (rw [add_block]; exact Kd.own_blk (Kd.R_ne HO_6.out BK623.out (by decide))) | (show (Addr.add _ _).block ≠ _; rw [add_block]; exact Kd.own_blk (Kd.R_ne HO_6.out BK623.out (by decide))) | (dsimp only; exact Kd.own_blk (Kd.R_ne HO_6.out BK623.out (by decide)))) _).trans (((cell_far (p := ⟨gb623, _, none⟩) (by first | exact Kd.own_blk (Kd.R_ne HO_6.out BK623.out (by decide)) | (rw [add_block]; exact Kd.own_blk (Kd.R_ne HO_6.out BK623.out (by decide))) | (show (Addr.add _ _).block ≠ _; rw [add_block]; exact Kd.own_blk (Kd.R_ne HO_6.out BK623.out (by decide))) | (dsimp only; exact Kd.own_blk (Kd.R_ne HO_6.out BK623.out (by decide)))) _).trans (((cell_far (p := ⟨gb623, _, none⟩) (by first | exact Kd.own_blk (Kd.R_ne HO_6.out BK623.out (by decide)) | (rw [add_block]; exact Kd.own_blk (Kd.R_ne HO_6.out BK623.out (by decide))) | (show (Addr.add _ _).block ≠ _; rw [add_block]; exact Kd.own_blk (Kd.R_ne HO_6.out BK623.out (by decide))) | (dsimp only; exact Kd.own_blk (Kd.R_ne HO_6.out BK623.out (by decide)))) _).trans (hHeld.2.2.2.2.2.1)))))), ((cell_far (p := ⟨gb623, _, none⟩) (by first | exact Kd.own_blk (Kd.R_ne HO_6.out BK623.out (by decide)) | (rw [add_block]; exact Kd.own_blk (Kd.R_ne HO_6.out BK623.out (by decide))) | (show (Addr.add _ _).block ≠ _; rw [add_block]; exact Kd.own_blk (Kd.R_ne HO_6.out BK623.out (by decide))) | (dsimp only; exact Kd.own_blk (Kd.R_ne HO_6.out BK623.out (by decide)))) _).trans (((cell_far (p := ⟨gb623, _, none⟩) (by first | exact Kd.own_blk (Kd.R_ne HO_6.out BK623.out (by decide)) | (rw [add_block]; exact Kd.own_blk (Kd.R_ne HO_6.out BK623.out (by decide))) | (show (Addr.add _ _).block ≠ _; rw [add_block]; exact Kd.own_blk (Kd.R_ne HO_6.out BK623.out (by decide))) | (dsimp only; exact Kd.own_blk (Kd.R_ne HO_6.out BK623.out (by decide)))) _).trans (((cell_far (p := ⟨gb623, _, none⟩) (by first | exact Kd.own_blk (Kd.R_ne HO_6.out BK623.out (by decide)) | (rw [add_block]; exact Kd.own_blk (Kd.R_ne HO_6.out BK623.out (by decide))) | (show (Addr.add _ _).block ≠ _; rw [add_block]; exact Kd.own_blk (Kd.R_ne HO_6.out BK623.out (by decide))) | (dsimp only; exact Kd.own_blk (Kd.R_ne HO_6.out BK623.out (by decide)))) _).trans (hHeld.2.2.2.2.2.2.1)))))), ((cell_far (p := ⟨gb623, _, none⟩) (by first | exact Kd.own_blk (Kd.R_ne HO_6.out BK623.out (by decide)) | (rw [add_block]; exact Kd.own_blk (Kd.R_ne HO_6.out BK623.out (by decide))) | (show (Addr.add _ _).block ≠ _; rw [add_block]; exact Kd.own_blk (Kd.R_ne HO_6.out BK623.out (by decide))) | (dsimp only; exact Kd.own_blk (Kd.R_ne HO_6.out BK623.out (by decide)))) _).trans (((cell_far (p := ⟨gb623, _, none⟩) (by first | exact Kd.own_blk (Kd.R_ne HO_6.out BK623.out (by decide)) | (rw [add_block]; exact Kd.own_blk (Kd.R_ne HO_6.out BK623.out (by decide))) | (show (Addr.add _ _).block ≠ _; rw [add_block]; exact Kd.own_blk (Kd.R_ne HO_6.out BK623.out (by decide))) | (dsimp only; exact Kd.own_blk (Kd.R_ne HO_6.out BK623.out (by decide)))) _).trans (((cell_far (p := ⟨gb623, _, none⟩) (by first | exact Kd.own_blk (Kd.R_ne HO_6.out BK623.out (by decide)) | (rw [add_block]; exact Kd.own_blk (Kd.R_ne HO_6.out BK623.out (by decide))) | (show (Addr.add _ _).block ≠ _; rw [add_block]; exact Kd.own_blk (Kd.R_ne HO_6.out BK623.out (by decide))) | (dsimp only; exact Kd.own_blk (Kd.R_ne HO_6.out BK623.out (by decide)))) _).trans (hHeld.2.2.2.2.2.2.2.1)))))), ((cell_far (p := ⟨gb623, _, none⟩) (by first | exact Kd.own_blk (Kd.R_ne HO_6.out BK623.out (by decide)) | (rw [add_block]; exact Kd.own_blk (Kd.R_ne HO_6.out BK623.out (by decide))) | (show (Addr.add _ _).block ≠ _; rw [add_block]; exact Kd.own_blk (Kd.R_ne HO_6.out BK623.out (by decide))) | (dsimp only; exact Kd.own_blk (Kd.R_ne HO_6.out BK623.out (by decide)))) _).trans (((cell_far (p := ⟨gb623, _, none⟩) (by first | exact Kd.own_blk (Kd.R_ne HO_6.out BK623.out (by decide)) | (rw [add_block]; exact Kd.own_blk (Kd.R_ne HO_6.out BK623.out (by decide))) | (show (Addr.add _ _).block ≠ _; rw [add_block]; exact Kd.own_blk (Kd.R_ne HO_6.out BK623.out (by decide))) | (dsimp only; exact Kd.own_blk (Kd.R_ne HO_6.out BK623.out (by decide)))) _).trans (((cell_far (p := ⟨gb623, _, none⟩) (by first | exact Kd.own_blk (Kd.R_ne HO_6.out BK623.out (by decide)) | (rw [add_block]; exact Kd.own_blk (Kd.R_ne HO_6.out BK623.out (by decide))) | (show (Addr.add _ _).block ≠ _; rw [add_block]; exact Kd.own_blk (Kd.R_ne HO_6.out BK623.out (by decide))) | (dsimp only; exact Kd.own_blk (Kd.R_ne HO_6.out BK623.out (by decide)))) _).trans (hHeld.2.2.2.2.2.2.2.2))))))⟩ (fun hHeld => ?_)
         clear hK K
         refine done_ (done_of HT_.out (by kernel_rfl)) ?_
         have hcz32_0 : w28.cell? ⟨gb623, 0, none⟩ = some (.int .i64 0) := (blk_cell BK623.out 0).trans rfl
         have hcz32_1 : w28.cell? ⟨gb623, 1, none⟩ = some (.int .i64 0) := (blk_cell BK623.out 1).trans rfl
         have hcz32_2 : w28.cell? ⟨gb623, 2, none⟩ = some (.int .i64 0) := (blk_cell BK623.out 2).trans rfl
         have hfz32_0 := blk_frozen BK623.out 0
         have hfz32_1 := blk_frozen BK623.out 1
         have hfz32_2 := blk_frozen BK623.out 2
         have hF := (((InvF.mk (a := 0) (b := 0) (c := 0) BK623.out (Kd.R_mono (Kd.R_types HO_6.out BK623.out (by decide)) (fun _ h => h.2)) (Kd.R_mono HO_9.out (fun _ hk => hk.2)) HB.out GE623.out : InvF w gb623 (.slice (some ad620) t604.length co9) t604 u9 x9_2 0 0 0 w28).put0 (rd_T54 t604 x10_2).f0).put1 (rd_T54 t604 x10_2).f1).put2 (rd_T54 t604 x10_2).f2
         clear HO_6 HO_9 HB BK623 GW623 GE623
         generalize ((w28.setCell { block := gb623, off := 0 } (Value.int IntKind.i64 (rd_T54 t604 x10_2).f0)).setCell { block := gb623, off := 1 } (Value.int IntKind.i64 (rd_T54 t604 x10_2).f1)).setCell { block := gb623, off := 2 } (Value.int IntKind.i64 (rd_T54 t604 x10_2).f2) = W5 at hF ⊢
         generalize (rd_T54 t604 x10_2).f0 = da at H hF ⊢
         generalize (rd_T54 t604 x10_2).f1 = db at H hF ⊢
         generalize (rd_T54 t604 x10_2).f2 = dn at H hF ⊢
         have HF := Aside0.mk hF
         have HH := Aside0.mk H
         have hq0 : W5.cell? ⟨gb623, 0, none⟩ = some (.int .i64 da) := (blk_cell hF.k 0).trans rfl
         have hq1 : W5.cell? ⟨gb623, 1, none⟩ = some (.int .i64 db) := (blk_cell hF.k 1).trans rfl
         have hq2 : W5.cell? ⟨gb623, 2, none⟩ = some (.int .i64 dn) := (blk_cell hF.k 2).trans rfl
         have hz0 := blk_frozen hF.k 0
         have hz1 := blk_frozen hF.k 1
         have hz2 := blk_frozen hF.k 2
         clear hF H
         have H := HH.out
         by_cases c24 : da ≥ 0
         ·rw [if_pos c24] at H
          have c24b0 : decide (0 ≤ da) = true := decide_eq_true c24
          clear c24
          by_cases c25 : db ≥ 0
          ·rw [if_pos c25] at H
           have c25b0 : decide (0 ≤ db) = true := decide_eq_true c25
           clear c25
           by_cases c26 : x9_2.length < 5864062014805
           ·rw [if_pos c26] at H
            have LM := Aside0.mk c26
            have H' := Aside0.mk H
            clear H c26 HH
            have HI := Aside0.mk ((HF.out.put0 (wrap64 (wrap64 (t603 - 1) - da))).put1 (wrap64 (wrap64 (t603 - 1) - db)))
            clear HF
            go_wp2_with (first | ((with_reducible refine gate_builtin (b := .append) (xs := #[.tmp 100, .tmp 102]) rfl ?_); (try (refine gate_guard (by rfl) ?_; dsimp only)); at_builtin; have hI := HI.out; refine Kd.R_append k55 (w0 := w) w.heap.size rfl (.tmp 100) (.tmp 102) 33 55 (.agg #[(.int .i64 0), (.int .i64 0), (.int .i64 0)]) 24 rfl Try.underlying33 info55 rfl (by decide) (by omega) u9 x9_2 (⟨wrap64 (wrap64 (t603 - 1) - da), wrap64 (wrap64 (t603 - 1) - db), dn⟩ : S55) [.int .i64 (wrap64 (wrap64 (t603 - 1) - da)), .int .i64 (wrap64 (wrap64 (t603 - 1) - db)), .int .i64 (dn)] (fun k_ => k_ ≠ gb623) (fun _ => False) rfl (by first | (go_simp; done) | (go_simp; rfl)) (k55_mkM _ _ _ (⟨wrap64 (wrap64 (t603 - 1) - da), wrap64 (wrap64 (t603 - 1) - db), dn⟩ : S55)) (fun _ hk => hk.elim) (Kd.freshB hI.k) hI.x hI.b (below_size hI.b) (by have := LM.out; omega) ?_; intro v625 w33 ho hb hg hat; have HD := Aside0.mk (Kd.R_over' hI.d (Kd.R_typed hI.x) (by decide) hg); have HX := Aside0.mk ho; have HB := Aside0.mk hb; clear hI ho hb hg hat HI))
            go_roundg k2
            case measure => have := HJ6.out; have := HK2.out; omega
            case rel => exact ⟨x9_2 ++ [(⟨wrap64 (wrap64 (t603 - 1) - da), wrap64 (wrap64 (t603 - 1) - db), dn⟩ : S55)], (wrap64 (x10_2 + 1)), (by first | rfl | (simp; done) | (simp [*]; done)), H', ⟨by have := HJ6.out; have := HK2.out; omega⟩, ⟨Kd.R_mono HD.out (fun _ _ => trivial)⟩, ⟨Kd.R_mono HX.out (fun _ _ => trivial)⟩, ⟨HB.out⟩⟩
           ·rw [if_neg c26] at H
            exact absurd H (by simp)
          ·rw [if_neg c25] at H
           have c25b0 : decide (0 ≤ db) = false := decide_eq_false c25
           clear c25
           by_cases c26 : x9_2.length < 5864062014805
           ·rw [if_pos c26] at H
            have LM := Aside0.mk c26
            have H' := Aside0.mk H
            clear H c26 HH
            have HI := Aside0.mk (HF.out.put0 (wrap64 (wrap64 (t603 - 1) - da)))
            clear HF
            go_wp2_with (first | ((with_reducible refine gate_builtin (b := .append) (xs := #[.tmp 100, .tmp 102]) rfl ?_); (try (refine gate_guard (by rfl) ?_; dsimp only)); at_builtin; have hI := HI.out; refine Kd.R_append k55 (w0 := w) w.heap.size rfl (.tmp 100) (.tmp 102) 33 55 (.agg #[(.int .i64 0), (.int .i64 0), (.int .i64 0)]) 24 rfl Try.underlying33 info55 rfl (by decide) (by omega) u9 x9_2 (⟨wrap64 (wrap64 (t603 - 1) - da), db, dn⟩ : S55) [.int .i64 (wrap64 (wrap64 (t603 - 1) - da)), .int .i64 (db), .int .i64 (dn)] (fun k_ => k_ ≠ gb623) (fun _ => False) rfl (by first | (go_simp; done) | (go_simp; rfl)) (k55_mkM _ _ _ (⟨wrap64 (wrap64 (t603 - 1) - da), db, dn⟩ : S55)) (fun _ hk => hk.elim) (Kd.freshB hI.k) hI.x hI.b (below_size hI.b) (by have := LM.out; omega) ?_; intro v625 w33 ho hb hg hat; have HD := Aside0.mk (Kd.R_over' hI.d (Kd.R_typed hI.x) (by decide) hg); have HX := Aside0.mk ho; have HB := Aside0.mk hb; clear hI ho hb hg hat HI))
            go_roundg k2
            case measure => have := HJ6.out; have := HK2.out; omega
            case rel => exact ⟨x9_2 ++ [(⟨wrap64 (wrap64 (t603 - 1) - da), db, dn⟩ : S55)], (wrap64 (x10_2 + 1)), (by first | rfl | (simp; done) | (simp [*]; done)), H', ⟨by have := HJ6.out; have := HK2.out; omega⟩, ⟨Kd.R_mono HD.out (fun _ _ => trivial)⟩, ⟨Kd.R_mono HX.out (fun _ _ => trivial)⟩, ⟨HB.out⟩⟩
           ·rw [if_neg c26] at H
            exact absurd H (by simp)
         ·rw [if_neg c24] at H
          have c24b0 : decide (0 ≤ da) = false := decide_eq_false c24
          clear c24
          by_cases c25 : db ≥ 0
          ·rw [if_pos c25] at H
           have c25b0 : decide (0 ≤ db) = true := decide_eq_true c25
           clear c25
           by_cases c26 : x9_2.length < 5864062014805
           ·rw [if_pos c26] at H
            have LM := Aside0.mk c26
            have H' := Aside0.mk H
            clear H c26 HH
            have HI := Aside0.mk (HF.out.put1 (wrap64 (wrap64 (t603 - 1) - db)))
            clear HF
            go_wp2_with (first | ((with_reducible refine gate_builtin (b := .append) (xs := #[.tmp 100, .tmp 102]) rfl ?_); (try (refine gate_guard (by rfl) ?_; dsimp only)); at_builtin; have hI := HI.out; refine Kd.R_append k55 (w0 := w) w.heap.size rfl (.tmp 100) (.tmp 102) 33 55 (.agg #[(.int .i64 0), (.int .i64 0), (.int .i64 0)]) 24 rfl Try.underlying33 info55 rfl (by decide) (by omega) u9 x9_2 (⟨da, wrap64 (wrap64 (t603 - 1) - db), dn⟩ : S55) [.int .i64 (da), .int .i64 (wrap64 (wrap64 (t603 - 1) - db)), .int .i64 (dn)] (fun k_ => k_ ≠ gb623) (fun _ => False) rfl (by first | (go_simp; done) | (go_simp; rfl)) (k55_mkM _ _ _ (⟨da, wrap64 (wrap64 (t603 - 1) - db), dn⟩ : S55)) (fun _ hk => hk.elim) (Kd.freshB hI.k) hI.x hI.b (below_size hI.b) (by have := LM.out; omega) ?_; intro v625 w33 ho hb hg hat; have HD := Aside0.mk (Kd.R_over' hI.d (Kd.R_typed hI.x) (by decide) hg); have HX := Aside0.mk ho; have HB := Aside0.mk hb; clear hI ho hb hg hat HI))
            go_roundg k2
            case measure => have := HJ6.out; have := HK2.out; omega
            case rel => exact ⟨x9_2 ++ [(⟨da, wrap64 (wrap64 (t603 - 1) - db), dn⟩ : S55)], (wrap64 (x10_2 + 1)), (by first | rfl | (simp; done) | (simp [*]; done)), H', ⟨by have := HJ6.out; have := HK2.out; omega⟩, ⟨Kd.R_mono HD.out (fun _ _ => trivial)⟩, ⟨Kd.R_mono HX.out (fun _ _ => trivial)⟩, ⟨HB.out⟩⟩
           ·rw [if_neg c26] at H
            exact absurd H (by simp)
          ·rw [if_neg c25] at H
           have c25b0 : decide (0 ≤ db) = false := decide_eq_false c25
           clear c25
           by_cases c26 : x9_2.length < 5864062014805
           ·rw [if_pos c26] at H
            have LM := Aside0.mk c26
            have H' := Aside0.mk H
            clear H c26 HH
            have HI := Aside0.mk HF.out
            clear HF
            go_wp2_with (first | ((with_reducible refine gate_builtin (b := .append) (xs := #[.tmp 100, .tmp 102]) rfl ?_); (try (refine gate_guard (by rfl) ?_; dsimp only)); at_builtin; have hI := HI.out; refine Kd.R_append k55 (w0 := w) w.heap.size rfl (.tmp 100) (.tmp 102) 33 55 (.agg #[(.int .i64 0), (.int .i64 0), (.int .i64 0)]) 24 rfl Try.underlying33 info55 rfl (by decide) (by omega) u9 x9_2 (⟨da, db, dn⟩ : S55) [.int .i64 (da), .int .i64 (db), .int .i64 (dn)] (fun k_ => k_ ≠ gb623) (fun _ => False) rfl (by first | (go_simp; done) | (go_simp; rfl)) (k55_mkM _ _ _ (⟨da, db, dn⟩ : S55)) (fun _ hk => hk.elim) (Kd.freshB hI.k) hI.x hI.b (below_size hI.b) (by have := LM.out; omega) ?_; intro v625 w33 ho hb hg hat; have HD := Aside0.mk (Kd.R_over' hI.d (Kd.R_typed hI.x) (by decide) hg); have HX := Aside0.mk ho; have HB := Aside0.mk hb; clear hI ho hb hg hat HI))
            go_roundg k2
            case measure => have := HJ6.out; have := HK2.out; omega
            case rel => exact ⟨x9_2 ++ [(⟨da, db, dn⟩ : S55)], (wrap64 (x10_2 + 1)), (by first | rfl | (simp; done) | (simp [*]; done)), H', ⟨by have := HJ6.out; have := HK2.out; omega⟩, ⟨Kd.R_mono HD.out (fun _ _ => trivial)⟩, ⟨Kd.R_mono HX.out (fun _ _ => trivial)⟩, ⟨HB.out⟩⟩
           ·rw [if_neg c26] at H
            exact absurd H (by simp)
        ·rw [if_neg c23] at H
         exact absurd H (by simp)
       ·rw [if_neg c22] at H
        have c22b0 : decide (x10_2 < (t604.length : Int)) = false := decide_eq_false c22
        clear c22
        replace H := Option.bind_eq_some_iff.mp H
        obtain ⟨⟨t636, t637⟩, A590, H⟩ := H
        replace H : ((l14_own.f k2 t604).bind fun t640 => ((bounds_Close.f k2 t603 t640).bind fun bt643 => (if t637 = 0 then (if bt643.2 = 0 then (l14_BoundsFilled.j2 k2 t603 t604 t636 bt643.1 ((t636.length : Int) != t603)) else (l14_BoundsFilled.j2 k2 t603 t604 t636 bt643.1 true)) else (if t637 = 5 then ((l14_lives.f k2).bind fun t647 => (some t647)) else (some false))))) = some r := H
        have A59 := Aside0.mk A590
        clear A590
        replace H := Option.bind_eq_some_iff.mp H
        obtain ⟨t640, A600, H⟩ := H
        replace H : ((bounds_Close.f k2 t603 t640).bind fun bt643 => (if t637 = 0 then (if bt643.2 = 0 then (l14_BoundsFilled.j2 k2 t603 t604 t636 bt643.1 ((t636.length : Int) != t603)) else (l14_BoundsFilled.j2 k2 t603 t604 t636 bt643.1 true)) else (if t637 = 5 then ((l14_lives.f k2).bind fun t647 => (some t647)) else (some false)))) = some r := H
        have A60 := Aside0.mk A600
        clear A600
        replace H := Option.bind_eq_some_iff.mp H
        obtain ⟨⟨t643, t644⟩, A610, H⟩ := H
        replace H : (if t637 = 0 then (if t644 = 0 then (l14_BoundsFilled.j2 k2 t603 t604 t636 t643 ((t636.length : Int) != t603)) else (l14_BoundsFilled.j2 k2 t603 t604 t636 t643 true)) else (if t637 = 5 then ((l14_lives.f k2).bind fun t647 => (some t647)) else (some false))) = some r := H
        have A61 := Aside0.mk A610
        clear A610
        by_cases c62 : t637 = 0
        ·rw [if_pos c62] at H
         have c62b0 : (t637 == 0) = true := beq_iff_eq.mpr c62
         have c62b1 : (t637 != 0) = false := bne_eq_false_iff_eq.mpr c62
         clear c62
         have HC63 := Aside0.mk H
         clear H
         obtain ⟨Ao64, co64, eo64⟩ := Kd.R_slice HO_9.out
         subst eo64
         go_upto_region 21 with (first | ((with_reducible refine gate_callee (f := 23) rfl ?_); refine goesL_ (some 108) rfl rfl Try.func23 (by kernel_rfl) rfl #[.int .i64 t603, .slice Ao64 x9_2.length co64, .slice A1 l1.length c1] rfl (by (try simp only [List.map_toArray, List.map_cons, List.map_nil]); first | done | rfl | (simp only [List.length_drop, List.length_take]; rfl)) ?_; (with_reducible refine (bounds_Fill.calls k2 t603 _ _ x9_2 _ _ l1 t636 t637 _ ?side1 ?side2 ?side3 ?side4 A59.out).mono ?_); (case side1 => repeat (first | exact (Kd.R_reads' HO_9.out).2.2 | (with_reducible refine Kd.C_alloc ?_ _) | (with_reducible refine Kd.C_drewN ?_ _) | (with_reducible refine Kd.C_drew ?_))); (case side2 => exact (Kd.R_reads' HO_9.out).2.1); (case side3 => repeat (first | exact (Kd.C_below HR1.out HB.out) | (with_reducible refine Kd.C_alloc ?_ _) | (with_reducible refine Kd.C_drewN ?_ _) | (with_reducible refine Kd.C_drew ?_))); (case side4 => exact HC1.out); rintro e w65 ⟨v638, rfl, ho0, hb⟩; refine ⟨_, rfl, ?_⟩; have n0_ := Aside0.mk (Kd.R_below (by (with_reducible repeat (first | apply Kd.R_alloc | apply Kd.R_drewN | apply Kd.R_drew)); exact HO_6.out) hb); have n1_ := Aside0.mk (Kd.R_below (by (with_reducible repeat (first | apply Kd.R_alloc | apply Kd.R_drewN | apply Kd.R_drew)); exact HO_9.out) hb); have n2_ := Aside0.mk (Kd.R_lower ho0 (below_size (by repeat (first | (with_reducible first | exact HB.out | apply below_alloc | apply pw_below_drewN | apply below_drew1) | exact HB.out)))); have n3_ := Aside0.mk (below_step (by repeat (first | (with_reducible first | exact HB.out | apply below_alloc | apply pw_below_drewN | apply below_drew1) | exact HB.out)) hb); clear HO_6; clear HO_9; clear HB; have HO_6 := n0_; have HO_9 := n1_; have HO639 := n2_; have HB := n3_; clear n0_ n1_ n2_ n3_; (try clear hb); (try clear hb2); (try clear hk); (try clear hi); (try clear ho0)) | ((with_reducible refine gate_callee (f := 13) rfl ?_); refine goesL_ (some 114) rfl rfl Try.func13 (by kernel_rfl) rfl #[.slice Ao9 t604.length co9] rfl (by (try simp only [List.map_toArray, List.map_cons, List.map_nil]); first | done | rfl | (simp only [List.length_drop, List.length_take]; rfl)) ?_; (with_reducible refine (l14_own.calls k2 _ _ t604 t640 _ ?side1 ?side2 A60.out).mono ?_); (case side1 => repeat (first | exact (Kd.R_reads' HO_6.out).2.2 | (with_reducible refine Kd.C_alloc ?_ _) | (with_reducible refine Kd.C_drewN ?_ _) | (with_reducible refine Kd.C_drew ?_))); (case side2 => exact (Kd.R_reads' HO_6.out).2.1); rintro e w66 ⟨v641, rfl, ho0, hb⟩; refine ⟨_, rfl, ?_⟩; have n0_ := Aside0.mk (Kd.R_below (by (with_reducible repeat (first | apply Kd.R_alloc | apply Kd.R_drewN | apply Kd.R_drew)); exact HO_6.out) hb); have n1_ := Aside0.mk (Kd.R_elder' (by (with_reducible repeat (first | apply Kd.R_alloc | apply Kd.R_drewN | apply Kd.R_drew)); exact HO_9.out) (Kd.R_base ho0) hb); have n2_ := Aside0.mk (Kd.R_below (by (with_reducible repeat (first | apply Kd.R_alloc | apply Kd.R_drewN | apply Kd.R_drew)); exact HO639.out) hb); have n3_ := Aside0.mk (Kd.R_lower (Kd.R_new' ho0 (Kd.R_lt (by (with_reducible repeat (first | apply Kd.R_alloc | apply Kd.R_drewN | apply Kd.R_drew)); exact HO_9.out))) (below_size (by repeat (first | (with_reducible first | exact HB.out | apply below_alloc | apply pw_below_drewN | apply below_drew1) | exact HB.out)))); have n4_ := Aside0.mk (below_step (by repeat (first | (with_reducible first | exact HB.out | apply below_alloc | apply pw_below_drewN | apply below_drew1) | exact HB.out)) hb); clear HO_6; clear HO_9; clear HO639; clear HB; have HO_6 := n0_; have HO_9 := n1_; have HO639 := n2_; have HO642 := n3_; have HB := n4_; clear n0_ n1_ n2_ n3_ n4_; (try clear hb); (try clear hb2); (try clear hk); (try clear hi); (try clear ho0); obtain ⟨Ao67, co67, eo67⟩ := Kd.R_slice HO642.out; subst eo67) | ((with_reducible refine gate_callee (f := 12) rfl ?_); refine goesL_ (some 115) rfl rfl Try.func12 (by kernel_rfl) rfl #[.int .i64 t603, .slice Ao67 t640.length co67] rfl (by (try simp only [List.map_toArray, List.map_cons, List.map_nil]); first | done | rfl | (simp only [List.length_drop, List.length_take]; rfl)) ?_; (with_reducible refine (bounds_Close.calls k2 t603 _ _ t640 t643 t644 _ ?side1 ?side2 A61.out).mono ?_); (case side1 => repeat (first | exact (Kd.R_reads' HO642.out).2.2 | (with_reducible refine Kd.C_alloc ?_ _) | (with_reducible refine Kd.C_drewN ?_ _) | (with_reducible refine Kd.C_drew ?_))); (case side2 => exact (Kd.R_reads' HO642.out).2.1); rintro e w68 ⟨v645, rfl, ho0, hb⟩; refine ⟨_, rfl, ?_⟩; have n0_ := Aside0.mk (Kd.R_below (by (with_reducible repeat (first | apply Kd.R_alloc | apply Kd.R_drewN | apply Kd.R_drew)); exact HO_6.out) hb); have n1_ := Aside0.mk (Kd.R_below (by (with_reducible repeat (first | apply Kd.R_alloc | apply Kd.R_drewN | apply Kd.R_drew)); exact HO_9.out) hb); have n2_ := Aside0.mk (Kd.R_below (by (with_reducible repeat (first | apply Kd.R_alloc | apply Kd.R_drewN | apply Kd.R_drew)); exact HO639.out) hb); have n3_ := Aside0.mk (Kd.R_below (by (with_reducible repeat (first | apply Kd.R_alloc | apply Kd.R_drewN | apply Kd.R_drew)); exact HO642.out) hb); have n4_ := Aside0.mk (Kd.S_lower (Kd.S_new' ho0 (Kd.R_lt (by (with_reducible repeat (first | apply Kd.R_alloc | apply Kd.R_drewN | apply Kd.R_drew)); exact HO639.out))) (below_size (by repeat (first | (with_reducible first | exact HB.out | apply below_alloc | apply pw_below_drewN | apply below_drew1) | exact HB.out)))); have n5_ := Aside0.mk (below_step (by repeat (first | (with_reducible first | exact HB.out | apply below_alloc | apply pw_below_drewN | apply below_drew1) | exact HB.out)) hb); clear HO_6; clear HO_9; clear HO639; clear HO642; clear HB; have HO_6 := n0_; have HO_9 := n1_; have HO639 := n2_; have HO642 := n3_; have HO646 := n4_; have HB := n5_; clear n0_ n1_ n2_ n3_ n4_ n5_; (try clear hb); (try clear hb2); (try clear hk); (try clear hi); (try clear ho0)))
         (try simp only [Act.put, List.setIfInBounds_toArray, List.set_cons_zero, List.set_cons_succ])
         go_cut [132] (fun v132 wc => ∃ (kq : Nat) (x132_62 : Bool), v132 = .bool x132_62 ∧ Aside0 (l14_BoundsFilled.j2 kq t603 t604 t636 t643 x132_62 = some r) ∧ Aside0 (kq ≤ k2) ∧ Aside0 (Kd.R k54 54 wc w.heap.size (fun _ => True) (.slice Ao9 t604.length co9) t604) ∧ Aside0 (Kd.R (Kd.int .i64) 3 wc w.heap.size (fun _ => True) v638 t636) ∧ Aside0 (Kd.S (Kd.slice 3 (Kd.int .i64)) 22 wc w.heap.size (fun k_ => some k_ ≠ (v638 : Value).ownBlock) v645 t643) ∧ Aside0 (Below w.heap.size w wc))
         case first =>
          have H := HC63.out
          clear HC63
          by_cases c69 : t644 = 0
          ·rw [if_pos c69] at H
           have c69b0 : (t644 == 0) = true := beq_iff_eq.mpr c69
           have c69b1 : (t644 != 0) = false := bne_eq_false_iff_eq.mpr c69
           clear c69
           (first | rw [c69b0] | (simp only [i64_w, i32_w]; rw [c69b0]) | skip)
           have H' := Aside0.mk H
           clear H
           obtain ⟨Ao70, co70, eo70⟩ := Kd.R_slice HO639.out
           subst eo70
           go_wp2
           go_meet
           case rel => exact ⟨_, (((t636.length : Int) != t603)), (by first | rfl | (simp; done) | (simp [*]; done)), H', ⟨by have := HJ6.out; have := HK2.out; first | omega | exact Nat.le_refl _⟩, ⟨by (with_reducible repeat (first | apply Kd.R_alloc | apply Kd.R_drewN | apply Kd.R_drew)); exact HO_6.out⟩, ⟨by (with_reducible repeat (first | apply Kd.R_alloc | apply Kd.R_drewN | apply Kd.R_drew)); exact HO639.out⟩, ⟨by (with_reducible repeat (first | apply Kd.S_alloc | apply Kd.S_drewN | apply Kd.S_drew)); exact Kd.S_mono HO646.out (fun _ hk => hk.2)⟩, ⟨by repeat (first | (with_reducible first | exact HB.out | apply below_alloc | apply pw_below_drewN | apply below_drew1) | exact HB.out)⟩⟩
          ·rw [if_neg c69] at H
           have c69b0 : (t644 == 0) = false := beq_eq_false_iff_ne.mpr c69
           have c69b1 : (t644 != 0) = true := bne_iff_ne.mpr c69
           (first | rw [c69b0] | (simp only [i64_w, i32_w]; rw [c69b0]) | skip)
           have H' := Aside0.mk H
           clear H
           go_wp2
           go_meet
           case rel => exact ⟨_, (true), (by first | rfl | (simp; done) | (simp [*]; done)), H', ⟨by have := HJ6.out; have := HK2.out; first | omega | exact Nat.le_refl _⟩, ⟨by (with_reducible repeat (first | apply Kd.R_alloc | apply Kd.R_drewN | apply Kd.R_drew)); exact HO_6.out⟩, ⟨by (with_reducible repeat (first | apply Kd.R_alloc | apply Kd.R_drewN | apply Kd.R_drew)); exact HO639.out⟩, ⟨by (with_reducible repeat (first | apply Kd.S_alloc | apply Kd.S_drewN | apply Kd.S_drew)); exact Kd.S_mono HO646.out (fun _ hk => hk.2)⟩, ⟨by repeat (first | (with_reducible first | exact HB.out | apply below_alloc | apply pw_below_drewN | apply below_drew1) | exact HB.out)⟩⟩
         case rest =>
          clear HC63
          try clear c1
          try clear c2
          try clear p2
          try clear c3
          try clear c4
          try clear c5
          try clear c6
          try clear p6
          try clear q6
          try clear hx6
          try clear c12
          try clear c13
          try clear c22
          try clear c22b0
          try clear c23
          try clear c24
          try clear c24b0
          try clear c34
          try clear c42
          try clear c42b0
          try clear c43
          try clear c51
          try clear c62
          try clear c62b0
          try clear c62b1
          try clear p62
          try clear q62
          try clear hx62
          try clear p64
          try clear c69
          try clear c69b0
          try clear c69b1
          try clear hcz40_0
          try clear hcz40_1
          try clear hcz40_2
          try clear hcz49_0
          try clear hcz49_1
          try clear hcz49_2
          try clear hcz57_0
          try clear hcz57_1
          try clear hcz57_2
          try clear hfz40_0
          try clear hfz40_1
          try clear hfz40_2
          try clear hfz49_0
          try clear hfz49_1
          try clear hfz49_2
          try clear hfz57_0
          try clear hfz57_1
          try clear hfz57_2
          try clear hx620_0
          try clear hx620_1
          try clear hx620_2
          try clear hx621_0
          try clear hx621_1
          try clear hx621_2
          try clear hx622_0
          try clear hx622_1
          try clear hx622_2
          try clear p620
          try clear p621
          try clear p622
          try clear q620
          try clear q621
          try clear q622
          obtain ⟨kq, x132_62, rfl, HA, HJ62, HO_6, HO_12, HO_14, HB⟩ := hcut
          cases kq with
          | zero => exact absurd HA.out (by simp [l14_BoundsFilled.j2])
          | succ kj62 =>
           have H := HA.out
           clear HA
           simp only [l14_BoundsFilled.j2] at H
           by_cases c71 : x132_62 = true
           ·subst c71
            have H1 : (some false) = some r := by rw [if_pos rfl] at H; exact H
            clear H
            have H := H1
            clear H1
            exact absurd H (by rw [HT.out]; simp)
           ·replace c71 := Bool.eq_false_iff.mpr c71
            subst c71
            have H1 : (l14_BoundsFilled.l1 kj62 t603 t604 t636 t643 ([] : List Int) ([] : List Int) 0) = some r := by rw [if_neg (show ¬ (false = true) by decide)] at H; exact H
            clear H
            have H := H1
            clear H1
            have H' := Aside0.mk H
            clear H
            go_wp2
            go_loopg [16, 17, 18] kj62 (fun kq v16 v17 v18 w' => ∃ (x16_4 : List Int) (x17_4 : List Int) (x18_4 : Int), v18 = .int .i64 x18_4 ∧ Aside0 (l14_BoundsFilled.l1 kq t603 t604 t636 t643 x16_4 x17_4 x18_4 = some r) ∧ Aside0 (kq ≤ kj62) ∧ Aside0 (Kd.R k54 54 w' w.heap.size (fun _ => True) (.slice Ao9 t604.length co9) t604) ∧ Aside0 (Kd.R (Kd.int .i64) 3 w' w.heap.size (fun k_ => some k_ ≠ (v16 : Value).ownBlock ∧ some k_ ≠ (v17 : Value).ownBlock) v638 t636) ∧ Aside0 (Kd.S (Kd.slice 3 (Kd.int .i64)) 22 w' w.heap.size (fun k_ => some k_ ≠ (v638 : Value).ownBlock ∧ some k_ ≠ (v16 : Value).ownBlock ∧ some k_ ≠ (v17 : Value).ownBlock) v645 t643) ∧ Aside0 (Kd.R (Kd.int .i64) 3 w' w.heap.size (fun k_ => some k_ ≠ (v638 : Value).ownBlock ∧ some k_ ≠ (v17 : Value).ownBlock) v16 x16_4) ∧ Aside0 (Kd.R (Kd.int .i64) 3 w' w.heap.size (fun k_ => some k_ ≠ (v638 : Value).ownBlock ∧ some k_ ≠ (v16 : Value).ownBlock) v17 x17_4) ∧ Aside0 (Below w.heap.size w w'))
            case atStart => exact ⟨(([] : List Int)), (([] : List Int)), (0), (by first | rfl | (simp; done) | (simp [*]; done)), H', ⟨Nat.le_refl _⟩, ⟨by (with_reducible repeat (first | apply Kd.R_alloc | apply Kd.R_drewN | apply Kd.R_drew)); exact HO_6.out⟩, ⟨by (with_reducible repeat (first | apply Kd.R_alloc | apply Kd.R_drewN | apply Kd.R_drew)); exact Kd.R_mono HO_12.out (fun _ hk => ⟨(by simp [Value.ownBlock]), (by simp [Value.ownBlock])⟩)⟩, ⟨by (with_reducible repeat (first | apply Kd.S_alloc | apply Kd.S_drewN | apply Kd.S_drew)); exact Kd.S_mono HO_14.out (fun _ hk => ⟨hk, ⟨(by simp [Value.ownBlock]), (by simp [Value.ownBlock])⟩⟩)⟩, ⟨by first | exact Kd.R_nil _ _ _ _ _ | exact Kd.N_nil _ _ _ _ _ | exact Kd.V_nil _ _ _ _ _ | exact Kd.Q_nil _ _ _ _ _ | exact Kd.S_nil _ _ _ _ _⟩, ⟨by first | exact Kd.R_nil _ _ _ _ _ | exact Kd.N_nil _ _ _ _ _ | exact Kd.V_nil _ _ _ _ _ | exact Kd.Q_nil _ _ _ _ _ | exact Kd.S_nil _ _ _ _ _⟩, ⟨by repeat (first | (with_reducible first | exact HB.out | apply below_alloc | apply pw_below_drewN | apply below_drew1) | exact HB.out)⟩⟩
            case round =>
             clear H'
             try clear c1
             try clear c2
             try clear p2
             try clear c3
             try clear c4
             try clear c5
             try clear c6
             try clear p6
             try clear q6
             try clear hx6
             try clear c7
             try clear c12
             try clear c13
             try clear c22
             try clear c22b0
             try clear c23
             try clear c24
             try clear c24b0
             try clear c34
             try clear c42
             try clear c42b0
             try clear c43
             try clear c51
             try clear c62
             try clear c62b0
             try clear c62b1
             try clear p62
             try clear q62
             try clear hx62
             try clear p64
             try clear c69
             try clear c69b0
             try clear c69b1
             try clear c71
             try clear hcz40_0
             try clear hcz40_1
             try clear hcz40_2
             try clear hcz49_0
             try clear hcz49_1
             try clear hcz49_2
             try clear hcz57_0
             try clear hcz57_1
             try clear hcz57_2
             try clear hfz40_0
             try clear hfz40_1
             try clear hfz40_2
             try clear hfz49_0
             try clear hfz49_1
             try clear hfz49_2
             try clear hfz57_0
             try clear hfz57_1
             try clear hfz57_2
             try clear hx620_0
             try clear hx620_1
             try clear hx620_2
             try clear hx621_0
             try clear hx621_1
             try clear hx621_2
             try clear hx622_0
             try clear hx622_1
             try clear hx622_2
             try clear p2
             try clear p6
             try clear p62
             try clear p620
             try clear p621
             try clear p622
             try clear p64
             try clear q6
             try clear q62
             try clear q620
             try clear q621
             try clear q622
             obtain ⟨x16_4, x17_4, x18_4, rfl, HA, HK4, HO_6, HO_12, HO_14, HO_16, HO_17, HB⟩ := hrel
             cases gk with
             | zero => exact absurd HA.out (by simp [l14_BoundsFilled.l1])
             | succ k4 =>
              have H := HA.out
              clear HA
              simp only [l14_BoundsFilled.l1] at H
              by_cases c72 : x18_4 < t603
              ·rw [if_pos c72] at H
               have c72b0 : decide (x18_4 < t603) = true := decide_eq_true c72
               clear c72
               obtain ⟨ji73, hji73⟩ : ∃ j_ : Int, (wrap64 ((wrap64 (t603 - 1)) - x18_4)) = j_ := ⟨_, rfl⟩
               replace H : (if 0 ≤ (ji73) then (if (ji73) < (t636.length : Int) then ((bounds_Range.f t643 x16_4).bind fun bt649 => (if bt649.2.2 = 0 then (if (rd t636 (ji73)) < bt649.1 then (some false) else (if (rd t636 (ji73)) > bt649.2.1 then (some false) else (if x17_4.length < 17592186044416 then (if x16_4.length < 17592186044416 then (l14_BoundsFilled.l1 k4 t603 t604 t636 t643 (x16_4 ++ [rd t636 (ji73)]) (x17_4 ++ [wrap64 ((rd t636 (ji73)) - bt649.1)]) (wrap64 (x18_4 + 1))) else (none)) else (none)))) else (some false))) else (none)) else (none)) = some r := by first | (rw [hji73] at H; exact H) | (simp only [hji73] at H ⊢; exact H)
               have hji73w : (IntKind.i64.wrap ((wrap64 (t603 - 1)) - x18_4)) = ji73 := (i64_w _).trans hji73
               by_cases c74 : 0 ≤ (ji73)
               ·rw [if_pos c74] at H
                have c74b0 : decide (0 ≤ (ji73)) = true := decide_eq_true c74
                clear c74
                by_cases c75 : (ji73) < (t636.length : Int)
                ·rw [if_pos c75] at H
                 have c75b0 : decide ((ji73) < (t636.length : Int)) = true := decide_eq_true c75
                 clear c75
                 replace H := Option.bind_eq_some_iff.mp H
                 obtain ⟨⟨t649, t650, t651⟩, A760, H⟩ := H
                 replace H : (if t651 = 0 then (if (rd t636 (ji73)) < t649 then (some false) else (if (rd t636 (ji73)) > t650 then (some false) else (if x17_4.length < 17592186044416 then (if x16_4.length < 17592186044416 then (l14_BoundsFilled.l1 k4 t603 t604 t636 t643 (x16_4 ++ [rd t636 (ji73)]) (x17_4 ++ [wrap64 ((rd t636 (ji73)) - t649)]) (wrap64 (x18_4 + 1))) else (none)) else (none)))) else (some false)) = some r := H
                 have A76 := Aside0.mk A760
                 clear A760
                 by_cases c77 : t651 = 0
                 ·rw [if_pos c77] at H
                  have c77b0 : (t651 == 0) = true := beq_iff_eq.mpr c77
                  have c77b1 : (t651 != 0) = false := bne_eq_false_iff_eq.mpr c77
                  clear c77
                  by_cases c78 : (rd t636 (ji73)) < t649
                  ·rw [if_pos c78] at H
                   have c78b0 : decide ((rd t636 (ji73)) < t649) = true := decide_eq_true c78
                   clear c78
                   exact absurd H (by rw [HT.out]; simp)
                  ·rw [if_neg c78] at H
                   have c78b0 : decide ((rd t636 (ji73)) < t649) = false := decide_eq_false c78
                   clear c78
                   by_cases c79 : (rd t636 (ji73)) > t650
                   ·rw [if_pos c79] at H
                    have c79b0 : decide (t650 < (rd t636 (ji73))) = true := decide_eq_true c79
                    clear c79
                    exact absurd H (by rw [HT.out]; simp)
                   ·rw [if_neg c79] at H
                    have c79b0 : decide (t650 < (rd t636 (ji73))) = false := decide_eq_false c79
                    clear c79
                    by_cases c80 : x17_4.length < 17592186044416
                    ·rw [if_pos c80] at H
                     have LMc80 := Aside0.mk c80
                     clear c80
                     obtain ⟨y652, hy652⟩ : ∃ y_ : List Int, y_ = (x17_4 ++ [wrap64 ((rd t636 (ji73)) - t649)]) := ⟨_, rfl⟩
                     replace H : (if x16_4.length < 17592186044416 then (l14_BoundsFilled.l1 k4 t603 t604 t636 t643 (x16_4 ++ [rd t636 (ji73)]) y652 (wrap64 (x18_4 + 1))) else (none)) = some r := by first | (rw [hy652]; with_reducible exact H) | (have H2_ := (Option.bind_some _ _).symm.trans H; rw [hy652]; with_reducible exact H2_) | (have H2_ := (Option.bind_some _ _).symm.trans H; with_reducible exact H2_) | with_reducible exact H | (rw [hy652]; exact H) | exact H
                     have Ny652 := Aside0.mk hy652
                     clear hy652
                     by_cases c81 : x16_4.length < 17592186044416
                     ·rw [if_pos c81] at H
                      have LMc81 := Aside0.mk c81
                      clear c81
                      obtain ⟨y655, hy655⟩ : ∃ y_ : List Int, y_ = (x16_4 ++ [rd t636 (ji73)]) := ⟨_, rfl⟩
                      replace H : (l14_BoundsFilled.l1 k4 t603 t604 t636 t643 y655 y652 (wrap64 (x18_4 + 1))) = some r := by first | (rw [hy655]; with_reducible exact H) | (have H2_ := (Option.bind_some _ _).symm.trans H; rw [hy655]; with_reducible exact H2_) | (have H2_ := (Option.bind_some _ _).symm.trans H; with_reducible exact H2_) | with_reducible exact H | (rw [hy655]; exact H) | exact H
                      have Ny655 := Aside0.mk hy655
                      clear hy655
                      have H' := Aside0.mk H
                      clear H
                      obtain ⟨Ao82, co82, eo82⟩ := Kd.R_slice HO_12.out
                      subst eo82
                      have p648 : 0 ≤ ((ji73) : Int) := of_decide_eq_true (by first | (with_reducible assumption) | assumption)
                      have q648 : (ji73) < (t636.length : Int) := of_decide_eq_true (by first | (with_reducible assumption) | assumption)
                      obtain ⟨ad648, e648, hx648_0⟩ := Kd.at_int (Kd.R_reads' HO_12.out).2.2 (ji73) p648 q648
                      cases e648
                      replace p648 := eq_true p648
                      replace q648 := eq_true q648
                      obtain ⟨Ao83, co83, eo83⟩ := Kd.S_slice HO_14.out
                      subst eo83
                      obtain ⟨Ao84, co84, eo84⟩ := Kd.R_slice HO_16.out
                      subst eo84
                      go_wp2_with (first | ((with_reducible refine gate_callee (f := 21) rfl ?_); refine goesL_ (some 148) rfl rfl Try.func21 (by kernel_rfl) rfl #[.slice Ao83 t643.length co83, .slice Ao84 x16_4.length co84] rfl (by (try simp only [List.map_toArray, List.map_cons, List.map_nil]); first | done | rfl | (simp only [List.length_drop, List.length_take]; rfl)) ?_; (with_reducible refine (bounds_Range.calls _ _ t643 _ _ x16_4 t649 t650 t651 _ ?side1 ?side2 ?side3 ?side4 A76.out).mono ?_); (case side1 => repeat (first | exact (Kd.S_reads' HO_14.out).2.2 | (with_reducible refine Kd.C_alloc ?_ _) | (with_reducible refine Kd.C_drewN ?_ _) | (with_reducible refine Kd.C_drew ?_))); (case side2 => exact (Kd.S_reads' HO_14.out).2.1); (case side3 => repeat (first | exact (Kd.R_reads' HO_16.out).2.2 | (with_reducible refine Kd.C_alloc ?_ _) | (with_reducible refine Kd.C_drewN ?_ _) | (with_reducible refine Kd.C_drew ?_))); (case side4 => exact (Kd.R_reads' HO_16.out).2.1); rintro e w85 ⟨rfl, hb⟩; refine ⟨_, rfl, ?_⟩; have n0_ := Aside0.mk (Kd.R_below (by (with_reducible repeat (first | apply Kd.R_alloc | apply Kd.R_drewN | apply Kd.R_drew)); exact HO_6.out) hb); have n1_ := Aside0.mk (Kd.R_below (by (with_reducible repeat (first | apply Kd.R_alloc | apply Kd.R_drewN | apply Kd.R_drew)); exact HO_12.out) hb); have n2_ := Aside0.mk (Kd.S_below (by (with_reducible repeat (first | apply Kd.S_alloc | apply Kd.S_drewN | apply Kd.S_drew)); exact HO_14.out) hb); have n3_ := Aside0.mk (Kd.R_below (by (with_reducible repeat (first | apply Kd.R_alloc | apply Kd.R_drewN | apply Kd.R_drew)); exact HO_16.out) hb); have n4_ := Aside0.mk (Kd.R_below (by (with_reducible repeat (first | apply Kd.R_alloc | apply Kd.R_drewN | apply Kd.R_drew)); exact HO_17.out) hb); have n5_ := Aside0.mk (below_step (by repeat (first | (with_reducible first | exact HB.out | apply below_alloc | apply pw_below_drewN | apply below_drew1) | exact HB.out)) hb); clear HO_6; clear HO_12; clear HO_14; clear HO_16; clear HO_17; clear HB; have HO_6 := n0_; have HO_12 := n1_; have HO_14 := n2_; have HO_16 := n3_; have HO_17 := n4_; have HB := n5_; clear n0_ n1_ n2_ n3_ n4_ n5_; (try clear hb); (try clear hb2); (try clear hk); (try clear hi)) | ((with_reducible refine gate_builtin (b := .append) (xs := #[.tmp 164, .tmp 168]) rfl ?_); (try (refine gate_guard (by rfl) ?_; dsimp only)); at_builtin; refine Kd.R_append (Kd.int .i64) (w0 := w) w.heap.size rfl (.tmp 164) (.tmp 168) 22 3 (.int .i64 0) 8 rfl Try.underlying22 info3 rfl (by decide) (by omega) u17 x17_4 (wrap64 ((rd t636 (ji73)) - t649)) [.int .i64 (wrap64 ((rd t636 (ji73)) - t649))] (fun k_ => some k_ ≠ (.slice (some ad648) t636.length co82 : Value).ownBlock ∧ some k_ ≠ (.slice Ao84 x16_4.length co84 : Value).ownBlock) (fun _ => False) rfl rfl ?aP (fun _ hk => hk.elim) ?aF ?aO ?aB ?aS ?aL ?_; (case aP => exact rfl); (case aB => exact (by repeat (first | (with_reducible first | exact HB.out | apply below_alloc | apply pw_below_drewN | apply below_drew1) | exact HB.out))); (case aF => exact (fun k_ hk => ⟨Kd.fresh' (Kd.R_lt (by (with_reducible repeat (first | apply Kd.R_alloc | apply Kd.R_drewN | apply Kd.R_drew)); exact HO_12.out)) k_ hk, Kd.fresh' (Kd.R_lt (by (with_reducible repeat (first | apply Kd.R_alloc | apply Kd.R_drewN | apply Kd.R_drew)); exact HO_16.out)) k_ hk⟩)); (case aO => exact (by (with_reducible repeat (first | apply Kd.R_alloc | apply Kd.R_drewN | apply Kd.R_drew)); exact HO_17.out)); (case aS => exact (below_size (by repeat (first | (with_reducible first | exact HB.out | apply below_alloc | apply pw_below_drewN | apply below_drew1) | exact HB.out)))); (case aL => have := LMc80.out; omega); intro v653 w86 ho hb hg hat; rw [← Ny652.out] at ho; have n0_ := Aside0.mk (Kd.R_over' (by (with_reducible repeat (first | apply Kd.R_alloc | apply Kd.R_drewN | apply Kd.R_drew)); exact HO_6.out) (Kd.R_typed (by (with_reducible repeat (first | apply Kd.R_alloc | apply Kd.R_drewN | apply Kd.R_drew)); exact HO_17.out)) (by decide) hg); have n1_ := Aside0.mk (Kd.R_after (ok := (fun k_ => some k_ ≠ (.slice Ao84 x16_4.length co84 : Value).ownBlock)) (by (with_reducible repeat (first | apply Kd.R_alloc | apply Kd.R_drewN | apply Kd.R_drew)); exact HO_12.out) hg hat); have n2_ := Aside0.mk (Kd.S_after (ok := (fun k_ => some k_ ≠ (.slice (some ad648) t636.length co82 : Value).ownBlock ∧ some k_ ≠ (.slice Ao84 x16_4.length co84 : Value).ownBlock)) (by (with_reducible repeat (first | apply Kd.S_alloc | apply Kd.S_drewN | apply Kd.S_drew)); exact Kd.S_mono HO_14.out (fun _ hk => ⟨⟨hk.1, hk.2.1⟩, hk.2.2⟩)) hg hat); have n3_ := Aside0.mk (Kd.R_after (ok := (fun k_ => some k_ ≠ (.slice (some ad648) t636.length co82 : Value).ownBlock)) (by (with_reducible repeat (first | apply Kd.R_alloc | apply Kd.R_drewN | apply Kd.R_drew)); exact HO_16.out) hg hat); have n4_ := Aside0.mk (hb); have n5_ := Aside0.mk (ho); clear HO_6; clear HO_12; clear HO_14; clear HO_16; clear HB; clear HO_17; have HO_6 := n0_; have HO_12 := n1_; have HO_14 := n2_; have HO_16 := n3_; have HB := n4_; have HO654 := n5_; clear n0_ n1_ n2_ n3_ n4_ n5_; clear ho hb hg hat) | ((with_reducible refine gate_builtin (b := .append) (xs := #[.tmp 170, .tmp 172]) rfl ?_); (try (refine gate_guard (by rfl) ?_; dsimp only)); at_builtin; refine Kd.R_append (Kd.int .i64) (w0 := w) w.heap.size rfl (.tmp 170) (.tmp 172) 22 3 (.int .i64 0) 8 rfl Try.underlying22 info3 rfl (by decide) (by omega) (.slice Ao84 x16_4.length co84) x16_4 (rd t636 (ji73)) [.int .i64 (rd t636 (ji73))] (fun k_ => some k_ ≠ (.slice (some ad648) t636.length co82 : Value).ownBlock ∧ some k_ ≠ (v653 : Value).ownBlock) (fun _ => False) rfl rfl ?aP (fun _ hk => hk.elim) ?aF ?aO ?aB ?aS ?aL ?_; (case aP => exact rfl); (case aB => exact (by repeat (first | (with_reducible first | exact HB.out | apply below_alloc | apply pw_below_drewN | apply below_drew1) | exact HB.out))); (case aF => exact (fun k_ hk => ⟨Kd.fresh' (Kd.R_lt (by (with_reducible repeat (first | apply Kd.R_alloc | apply Kd.R_drewN | apply Kd.R_drew)); exact HO_12.out)) k_ hk, Kd.fresh' (Kd.R_lt (by (with_reducible repeat (first | apply Kd.R_alloc | apply Kd.R_drewN | apply Kd.R_drew)); exact HO654.out)) k_ hk⟩)); (case aO => exact (by (with_reducible repeat (first | apply Kd.R_alloc | apply Kd.R_drewN | apply Kd.R_drew)); exact HO_16.out)); (case aS => exact (below_size (by repeat (first | (with_reducible first | exact HB.out | apply below_alloc | apply pw_below_drewN | apply below_drew1) | exact HB.out)))); (case aL => have := LMc81.out; omega); intro v656 w87 ho hb hg hat; rw [← Ny655.out] at ho; have n0_ := Aside0.mk (Kd.R_over' (by (with_reducible repeat (first | apply Kd.R_alloc | apply Kd.R_drewN | apply Kd.R_drew)); exact HO_6.out) (Kd.R_typed (by (with_reducible repeat (first | apply Kd.R_alloc | apply Kd.R_drewN | apply Kd.R_drew)); exact HO_16.out)) (by decide) hg); have n1_ := Aside0.mk (Kd.R_after (ok := (fun k_ => some k_ ≠ (v653 : Value).ownBlock)) (by (with_reducible repeat (first | apply Kd.R_alloc | apply Kd.R_drewN | apply Kd.R_drew)); exact Kd.R_mono HO_12.out (fun _ hk => ⟨hk.2, hk.1⟩)) hg hat); have n2_ := Aside0.mk (Kd.S_after (ok := (fun k_ => some k_ ≠ (.slice (some ad648) t636.length co82 : Value).ownBlock ∧ some k_ ≠ (v653 : Value).ownBlock)) (by (with_reducible repeat (first | apply Kd.S_alloc | apply Kd.S_drewN | apply Kd.S_drew)); exact Kd.S_mono HO_14.out (fun _ hk => ⟨⟨hk.1.1, hk.2⟩, hk.1.2⟩)) hg hat); have n3_ := Aside0.mk (Kd.R_after (ok := (fun k_ => some k_ ≠ (.slice (some ad648) t636.length co82 : Value).ownBlock)) (by (with_reducible repeat (first | apply Kd.R_alloc | apply Kd.R_drewN | apply Kd.R_drew)); exact HO654.out) hg hat); have n4_ := Aside0.mk (hb); have n5_ := Aside0.mk (ho); clear HO_6; clear HO_12; clear HO_14; clear HO654; clear HB; clear HO_16; have HO_6 := n0_; have HO_12 := n1_; have HO_14 := n2_; have HO654 := n3_; have HB := n4_; have HO657 := n5_; clear n0_ n1_ n2_ n3_ n4_ n5_; clear ho hb hg hat))
                      go_roundg k4
                      case measure => have := HJ6.out; have := HK2.out; have := HJ62.out; have := HK4.out; omega
                      case rel => exact ⟨(y655), (y652), (wrap64 (x18_4 + 1)), (by first | rfl | (simp; done) | (simp [*]; done)), H', ⟨by have := HJ6.out; have := HK2.out; have := HJ62.out; have := HK4.out; omega⟩, ⟨by (with_reducible repeat (first | apply Kd.R_alloc | apply Kd.R_drewN | apply Kd.R_drew)); exact HO_6.out⟩, ⟨by (with_reducible repeat (first | apply Kd.R_alloc | apply Kd.R_drewN | apply Kd.R_drew)); exact Kd.R_mono HO_12.out (fun _ hk => ⟨hk.2, hk.1⟩)⟩, ⟨by (with_reducible repeat (first | apply Kd.S_alloc | apply Kd.S_drewN | apply Kd.S_drew)); exact Kd.S_mono HO_14.out (fun _ hk => ⟨hk.1.1, ⟨hk.2, hk.1.2⟩⟩)⟩, ⟨by (with_reducible repeat (first | apply Kd.R_alloc | apply Kd.R_drewN | apply Kd.R_drew)); exact HO657.out⟩, ⟨by (with_reducible repeat (first | apply Kd.R_alloc | apply Kd.R_drewN | apply Kd.R_drew)); exact HO654.out⟩, ⟨by repeat (first | (with_reducible first | exact HB.out | apply below_alloc | apply pw_below_drewN | apply below_drew1) | exact HB.out)⟩⟩
                     ·rw [if_neg c81] at H
                      exact absurd H (by simp)
                    ·rw [if_neg c80] at H
                     exact absurd H (by simp)
                 ·rw [if_neg c77] at H
                  have c77b0 : (t651 == 0) = false := beq_eq_false_iff_ne.mpr c77
                  have c77b1 : (t651 != 0) = true := bne_iff_ne.mpr c77
                  exact absurd H (by rw [HT.out]; simp)
                ·rw [if_neg c75] at H
                 exact absurd H (by simp)
               ·rw [if_neg c74] at H
                exact absurd H (by simp)
              ·rw [if_neg c72] at H
               have c72b0 : decide (x18_4 < t603) = false := decide_eq_false c72
               clear c72
               replace H := Option.bind_eq_some_iff.mp H
               obtain ⟨t658, A880, H⟩ := H
               replace H : ((bounds_Fill.f k4 t603 t658 x17_4).bind fun bt661 => (if bt661.2 = 0 then ((r01_SameInts.f k4 bt661.1 x16_4).bind fun t665 => (if t665 = true then ((l14_own.f k4 t604).bind fun t666 => ((bounds_Holds.f t666 x16_4).bind fun t669 => (if t669 = (-1) then ((l14_lives.f k4).bind fun t670 => (some t670)) else (some false)))) else (some false))) else (some false))) = some r := H
               have A88 := Aside0.mk A880
               clear A880
               replace H := Option.bind_eq_some_iff.mp H
               obtain ⟨⟨t661, t662⟩, A890, H⟩ := H
               replace H : (if t662 = 0 then ((r01_SameInts.f k4 t661 x16_4).bind fun t665 => (if t665 = true then ((l14_own.f k4 t604).bind fun t666 => ((bounds_Holds.f t666 x16_4).bind fun t669 => (if t669 = (-1) then ((l14_lives.f k4).bind fun t670 => (some t670)) else (some false)))) else (some false))) else (some false)) = some r := H
               have A89 := Aside0.mk A890
               clear A890
               by_cases c90 : t662 = 0
               ·rw [if_pos c90] at H
                have c90b0 : (t662 == 0) = true := beq_iff_eq.mpr c90
                have c90b1 : (t662 != 0) = false := bne_eq_false_iff_eq.mpr c90
                clear c90
                replace H := Option.bind_eq_some_iff.mp H
                obtain ⟨t665, A910, H⟩ := H
                replace H : (if t665 = true then ((l14_own.f k4 t604).bind fun t666 => ((bounds_Holds.f t666 x16_4).bind fun t669 => (if t669 = (-1) then ((l14_lives.f k4).bind fun t670 => (some t670)) else (some false)))) else (some false)) = some r := H
                have A91 := Aside0.mk A910
                clear A910
                by_cases c92 : t665 = true
                ·subst c92
                 have H1 : ((l14_own.f k4 t604).bind fun t666 => ((bounds_Holds.f t666 x16_4).bind fun t669 => (if t669 = (-1) then ((l14_lives.f k4).bind fun t670 => (some t670)) else (some false)))) = some r := by rw [if_pos rfl] at H; exact H
                 clear H
                 have H := H1
                 clear H1
                 replace H := Option.bind_eq_some_iff.mp H
                 obtain ⟨t666, A930, H⟩ := H
                 replace H : ((bounds_Holds.f t666 x16_4).bind fun t669 => (if t669 = (-1) then ((l14_lives.f k4).bind fun t670 => (some t670)) else (some false))) = some r := H
                 have A93 := Aside0.mk A930
                 clear A930
                 replace H := Option.bind_eq_some_iff.mp H
                 obtain ⟨t669, A940, H⟩ := H
                 replace H : (if t669 = (-1) then ((l14_lives.f k4).bind fun t670 => (some t670)) else (some false)) = some r := H
                 have A94 := Aside0.mk A940
                 clear A940
                 by_cases c95 : t669 = (-1)
                 ·rw [if_pos c95] at H
                  have c95b0 : (t669 == (-1)) = true := beq_iff_eq.mpr c95
                  have c95b1 : (t669 != (-1)) = false := bne_eq_false_iff_eq.mpr c95
                  clear c95
                  replace H := Option.bind_eq_some_iff.mp H
                  obtain ⟨t670, A960, H⟩ := H
                  replace H : (some t670) = some r := H
                  have A96 := Aside0.mk A960
                  clear A960
                  obtain rfl := Option.some.inj H
                  go_wp2_with (first | ((with_reducible refine gate_callee (f := 13) rfl ?_); refine goesL_ (some 177) rfl rfl Try.func13 (by kernel_rfl) rfl #[.slice Ao9 t604.length co9] rfl (by (try simp only [List.map_toArray, List.map_cons, List.map_nil]); first | done | rfl | (simp only [List.length_drop, List.length_take]; rfl)) ?_; (with_reducible refine (l14_own.calls k4 _ _ t604 t658 _ ?side1 ?side2 A88.out).mono ?_); (case side1 => repeat (first | exact (Kd.R_reads' HO_6.out).2.2 | (with_reducible refine Kd.C_alloc ?_ _) | (with_reducible refine Kd.C_drewN ?_ _) | (with_reducible refine Kd.C_drew ?_))); (case side2 => exact (Kd.R_reads' HO_6.out).2.1); rintro e w97 ⟨v659, rfl, ho0, hb⟩; refine ⟨_, rfl, ?_⟩; have n0_ := Aside0.mk (Kd.R_below (by (with_reducible repeat (first | apply Kd.R_alloc | apply Kd.R_drewN | apply Kd.R_drew)); exact HO_6.out) hb); have n1_ := Aside0.mk (Kd.R_below (by (with_reducible repeat (first | apply Kd.R_alloc | apply Kd.R_drewN | apply Kd.R_drew)); exact HO_12.out) hb); have n2_ := Aside0.mk (Kd.S_below (by (with_reducible repeat (first | apply Kd.S_alloc | apply Kd.S_drewN | apply Kd.S_drew)); exact HO_14.out) hb); have n3_ := Aside0.mk (Kd.R_below (by (with_reducible repeat (first | apply Kd.R_alloc | apply Kd.R_drewN | apply Kd.R_drew)); exact HO_16.out) hb); have n4_ := Aside0.mk (Kd.R_below (by (with_reducible repeat (first | apply Kd.R_alloc | apply Kd.R_drewN | apply Kd.R_drew)); exact HO_17.out) hb); have n5_ := Aside0.mk (Kd.R_lower ho0 (below_size (by repeat (first | (with_reducible first | exact HB.out | apply below_alloc | apply pw_below_drewN | apply below_drew1) | exact HB.out)))); have n6_ := Aside0.mk (below_step (by repeat (first | (with_reducible first | exact HB.out | apply below_alloc | apply pw_below_drewN | apply below_drew1) | exact HB.out)) hb); clear HO_6; clear HO_12; clear HO_14; clear HO_16; clear HO_17; clear HB; have HO_6 := n0_; have HO_12 := n1_; have HO_14 := n2_; have HO_16 := n3_; have HO_17 := n4_; have HO660 := n5_; have HB := n6_; clear n0_ n1_ n2_ n3_ n4_ n5_ n6_; (try clear hb); (try clear hb2); (try clear hk); (try clear hi); (try clear ho0); obtain ⟨Ao98, co98, eo98⟩ := Kd.R_slice HO660.out; subst eo98; obtain ⟨Ao99, co99, eo99⟩ := Kd.R_slice HO_17.out; subst eo99) | ((with_reducible refine gate_callee (f := 23) rfl ?_); refine goesL_ (some 179) rfl rfl Try.func23 (by kernel_rfl) rfl #[.int .i64 t603, .slice Ao98 t658.length co98, .slice Ao99 x17_4.length co99] rfl (by (try simp only [List.map_toArray, List.map_cons, List.map_nil]); first | done | rfl | (simp only [List.length_drop, List.length_take]; rfl)) ?_; (with_reducible refine (bounds_Fill.calls k4 t603 _ _ t658 _ _ x17_4 t661 t662 _ ?side1 ?side2 ?side3 ?side4 A89.out).mono ?_); (case side1 => repeat (first | exact (Kd.R_reads' HO660.out).2.2 | (with_reducible refine Kd.C_alloc ?_ _) | (with_reducible refine Kd.C_drewN ?_ _) | (with_reducible refine Kd.C_drew ?_))); (case side2 => exact (Kd.R_reads' HO660.out).2.1); (case side3 => repeat (first | exact (Kd.R_reads' HO_17.out).2.2 | (with_reducible refine Kd.C_alloc ?_ _) | (with_reducible refine Kd.C_drewN ?_ _) | (with_reducible refine Kd.C_drew ?_))); (case side4 => exact (Kd.R_reads' HO_17.out).2.1); rintro e w100 ⟨v663, rfl, ho0, hb⟩; refine ⟨_, rfl, ?_⟩; have n0_ := Aside0.mk (Kd.R_below (by (with_reducible repeat (first | apply Kd.R_alloc | apply Kd.R_drewN | apply Kd.R_drew)); exact HO_6.out) hb); have n1_ := Aside0.mk (Kd.R_elder' (by (with_reducible repeat (first | apply Kd.R_alloc | apply Kd.R_drewN | apply Kd.R_drew)); exact HO_12.out) (Kd.R_base ho0) hb); have n2_ := Aside0.mk (Kd.S_elder' (by (with_reducible repeat (first | apply Kd.S_alloc | apply Kd.S_drewN | apply Kd.S_drew)); exact HO_14.out) (Kd.R_base ho0) hb); have n3_ := Aside0.mk (Kd.R_elder' (by (with_reducible repeat (first | apply Kd.R_alloc | apply Kd.R_drewN | apply Kd.R_drew)); exact HO_16.out) (Kd.R_base ho0) hb); have n4_ := Aside0.mk (Kd.R_elder' (by (with_reducible repeat (first | apply Kd.R_alloc | apply Kd.R_drewN | apply Kd.R_drew)); exact HO_17.out) (Kd.R_base ho0) hb); have n5_ := Aside0.mk (Kd.R_below (by (with_reducible repeat (first | apply Kd.R_alloc | apply Kd.R_drewN | apply Kd.R_drew)); exact HO660.out) hb); have n6_ := Aside0.mk (Kd.R_lower (Kd.R_new' (Kd.R_new' (Kd.R_new' ho0 (Kd.R_lt (by (with_reducible repeat (first | apply Kd.R_alloc | apply Kd.R_drewN | apply Kd.R_drew)); exact HO_12.out))) (Kd.R_lt (by (with_reducible repeat (first | apply Kd.R_alloc | apply Kd.R_drewN | apply Kd.R_drew)); exact HO_16.out))) (Kd.R_lt (by (with_reducible repeat (first | apply Kd.R_alloc | apply Kd.R_drewN | apply Kd.R_drew)); exact HO_17.out))) (below_size (by repeat (first | (with_reducible first | exact HB.out | apply below_alloc | apply pw_below_drewN | apply below_drew1) | exact HB.out)))); have n7_ := Aside0.mk (below_step (by repeat (first | (with_reducible first | exact HB.out | apply below_alloc | apply pw_below_drewN | apply below_drew1) | exact HB.out)) hb); clear HO_6; clear HO_12; clear HO_14; clear HO_16; clear HO_17; clear HO660; clear HB; have HO_6 := n0_; have HO_12 := n1_; have HO_14 := n2_; have HO_16 := n3_; have HO_17 := n4_; have HO660 := n5_; have HO664 := n6_; have HB := n7_; clear n0_ n1_ n2_ n3_ n4_ n5_ n6_ n7_; (try clear hb); (try clear hb2); (try clear hk); (try clear hi); (try clear ho0); obtain ⟨Ao101, co101, eo101⟩ := Kd.R_slice HO664.out; subst eo101; obtain ⟨Ao102, co102, eo102⟩ := Kd.R_slice HO_16.out; subst eo102) | (go_at_call 18; (with_reducible refine (r01_SameInts.calls k4 _ _ t661 _ _ x16_4 true _ ?side1 ?side2 ?side3 ?side4 A91.out).mono ?_); (case side1 => repeat (first | exact (Kd.R_reads' HO664.out).2.2 | (with_reducible refine Kd.C_alloc ?_ _) | (with_reducible refine Kd.C_drewN ?_ _) | (with_reducible refine Kd.C_drew ?_))); (case side2 => exact (Kd.R_reads' HO664.out).2.1); (case side3 => repeat (first | exact (Kd.R_reads' HO_16.out).2.2 | (with_reducible refine Kd.C_alloc ?_ _) | (with_reducible refine Kd.C_drewN ?_ _) | (with_reducible refine Kd.C_drew ?_))); (case side4 => exact (Kd.R_reads' HO_16.out).2.1); rintro e w' ⟨rfl, ⟨nd, rfl⟩⟩) | (go_at_call 13; (with_reducible refine (l14_own.calls k4 _ _ t604 t666 _ ?side1 ?side2 A93.out).mono ?_); (case side1 => repeat (first | exact (Kd.R_reads' HO_6.out).2.2 | (with_reducible refine Kd.C_alloc ?_ _) | (with_reducible refine Kd.C_drewN ?_ _) | (with_reducible refine Kd.C_drew ?_))); (case side2 => exact (Kd.R_reads' HO_6.out).2.1); rintro e w103 ⟨v667, rfl, ho0, hb⟩; have n0_ := Aside0.mk (Kd.R_below (by (with_reducible repeat (first | apply Kd.R_alloc | apply Kd.R_drewN | apply Kd.R_drew)); exact HO_6.out) hb); have n1_ := Aside0.mk (Kd.R_below (by (with_reducible repeat (first | apply Kd.R_alloc | apply Kd.R_drewN | apply Kd.R_drew)); exact HO_12.out) hb); have n2_ := Aside0.mk (Kd.S_below (by (with_reducible repeat (first | apply Kd.S_alloc | apply Kd.S_drewN | apply Kd.S_drew)); exact HO_14.out) hb); have n3_ := Aside0.mk (Kd.R_below (by (with_reducible repeat (first | apply Kd.R_alloc | apply Kd.R_drewN | apply Kd.R_drew)); exact HO_16.out) hb); have n4_ := Aside0.mk (Kd.R_below (by (with_reducible repeat (first | apply Kd.R_alloc | apply Kd.R_drewN | apply Kd.R_drew)); exact HO_17.out) hb); have n5_ := Aside0.mk (Kd.R_elder' (by (with_reducible repeat (first | apply Kd.R_alloc | apply Kd.R_drewN | apply Kd.R_drew)); exact HO660.out) (Kd.R_base ho0) hb); have n6_ := Aside0.mk (Kd.R_below (by (with_reducible repeat (first | apply Kd.R_alloc | apply Kd.R_drewN | apply Kd.R_drew)); exact HO664.out) hb); have n7_ := Aside0.mk (Kd.R_lower (Kd.R_new' ho0 (Kd.R_lt (by (with_reducible repeat (first | apply Kd.R_alloc | apply Kd.R_drewN | apply Kd.R_drew)); exact HO660.out))) (below_size (by repeat (first | (with_reducible first | exact HB.out | apply below_alloc | apply pw_below_drewN | apply below_drew1) | exact HB.out)))); have n8_ := Aside0.mk (below_step (by repeat (first | (with_reducible first | exact HB.out | apply below_alloc | apply pw_below_drewN | apply below_drew1) | exact HB.out)) hb); clear HO_6; clear HO_12; clear HO_14; clear HO_16; clear HO_17; clear HO660; clear HO664; clear HB; have HO_6 := n0_; have HO_12 := n1_; have HO_14 := n2_; have HO_16 := n3_; have HO_17 := n4_; have HO660 := n5_; have HO664 := n6_; have HO668 := n7_; have HB := n8_; clear n0_ n1_ n2_ n3_ n4_ n5_ n6_ n7_ n8_; (try clear hb); (try clear hb2); (try clear hk); (try clear hi); (try clear ho0); obtain ⟨Ao104, co104, eo104⟩ := Kd.R_slice HO668.out; subst eo104) | (go_at_call 25; (with_reducible refine (bounds_Holds.calls _ _ t666 _ _ x16_4 t669 _ ?side1 ?side2 ?side3 ?side4 A94.out).mono ?_); (case side1 => repeat (first | exact (Kd.R_reads' HO668.out).2.2 | (with_reducible refine Kd.C_alloc ?_ _) | (with_reducible refine Kd.C_drewN ?_ _) | (with_reducible refine Kd.C_drew ?_))); (case side2 => exact (Kd.R_reads' HO668.out).2.1); (case side3 => repeat (first | exact (Kd.R_reads' HO_16.out).2.2 | (with_reducible refine Kd.C_alloc ?_ _) | (with_reducible refine Kd.C_drewN ?_ _) | (with_reducible refine Kd.C_drew ?_))); (case side4 => exact (Kd.R_reads' HO_16.out).2.1); rintro e w105 ⟨rfl, hb⟩; have n0_ := Aside0.mk (Kd.R_below (by (with_reducible repeat (first | apply Kd.R_alloc | apply Kd.R_drewN | apply Kd.R_drew)); exact HO_6.out) hb); have n1_ := Aside0.mk (Kd.R_below (by (with_reducible repeat (first | apply Kd.R_alloc | apply Kd.R_drewN | apply Kd.R_drew)); exact HO_12.out) hb); have n2_ := Aside0.mk (Kd.S_below (by (with_reducible repeat (first | apply Kd.S_alloc | apply Kd.S_drewN | apply Kd.S_drew)); exact HO_14.out) hb); have n3_ := Aside0.mk (Kd.R_below (by (with_reducible repeat (first | apply Kd.R_alloc | apply Kd.R_drewN | apply Kd.R_drew)); exact HO_16.out) hb); have n4_ := Aside0.mk (Kd.R_below (by (with_reducible repeat (first | apply Kd.R_alloc | apply Kd.R_drewN | apply Kd.R_drew)); exact HO_17.out) hb); have n5_ := Aside0.mk (Kd.R_below (by (with_reducible repeat (first | apply Kd.R_alloc | apply Kd.R_drewN | apply Kd.R_drew)); exact HO660.out) hb); have n6_ := Aside0.mk (Kd.R_below (by (with_reducible repeat (first | apply Kd.R_alloc | apply Kd.R_drewN | apply Kd.R_drew)); exact HO664.out) hb); have n7_ := Aside0.mk (Kd.R_below (by (with_reducible repeat (first | apply Kd.R_alloc | apply Kd.R_drewN | apply Kd.R_drew)); exact HO668.out) hb); have n8_ := Aside0.mk (below_step (by repeat (first | (with_reducible first | exact HB.out | apply below_alloc | apply pw_below_drewN | apply below_drew1) | exact HB.out)) hb); clear HO_6; clear HO_12; clear HO_14; clear HO_16; clear HO_17; clear HO660; clear HO664; clear HO668; clear HB; have HO_6 := n0_; have HO_12 := n1_; have HO_14 := n2_; have HO_16 := n3_; have HO_17 := n4_; have HO660 := n5_; have HO664 := n6_; have HO668 := n7_; have HB := n8_; clear n0_ n1_ n2_ n3_ n4_ n5_ n6_ n7_ n8_; (try clear hb); (try clear hb2); (try clear hk); (try clear hi)) | (go_at_call 19; (with_reducible refine (l14_lives.calls k4  t670 _ A96.out).mono ?_); rintro e w106 ⟨rfl, hb⟩; have n0_ := Aside0.mk (Kd.R_below (by (with_reducible repeat (first | apply Kd.R_alloc | apply Kd.R_drewN | apply Kd.R_drew)); exact HO_6.out) hb); have n1_ := Aside0.mk (Kd.R_below (by (with_reducible repeat (first | apply Kd.R_alloc | apply Kd.R_drewN | apply Kd.R_drew)); exact HO_12.out) hb); have n2_ := Aside0.mk (Kd.S_below (by (with_reducible repeat (first | apply Kd.S_alloc | apply Kd.S_drewN | apply Kd.S_drew)); exact HO_14.out) hb); have n3_ := Aside0.mk (Kd.R_below (by (with_reducible repeat (first | apply Kd.R_alloc | apply Kd.R_drewN | apply Kd.R_drew)); exact HO_16.out) hb); have n4_ := Aside0.mk (Kd.R_below (by (with_reducible repeat (first | apply Kd.R_alloc | apply Kd.R_drewN | apply Kd.R_drew)); exact HO_17.out) hb); have n5_ := Aside0.mk (Kd.R_below (by (with_reducible repeat (first | apply Kd.R_alloc | apply Kd.R_drewN | apply Kd.R_drew)); exact HO660.out) hb); have n6_ := Aside0.mk (Kd.R_below (by (with_reducible repeat (first | apply Kd.R_alloc | apply Kd.R_drewN | apply Kd.R_drew)); exact HO664.out) hb); have n7_ := Aside0.mk (Kd.R_below (by (with_reducible repeat (first | apply Kd.R_alloc | apply Kd.R_drewN | apply Kd.R_drew)); exact HO668.out) hb); have n8_ := Aside0.mk (below_step (by repeat (first | (with_reducible first | exact HB.out | apply below_alloc | apply pw_below_drewN | apply below_drew1) | exact HB.out)) hb); clear HO_6; clear HO_12; clear HO_14; clear HO_16; clear HO_17; clear HO660; clear HO664; clear HO668; clear HB; have HO_6 := n0_; have HO_12 := n1_; have HO_14 := n2_; have HO_16 := n3_; have HO_17 := n4_; have HO660 := n5_; have HO664 := n6_; have HO668 := n7_; have HB := n8_; clear n0_ n1_ n2_ n3_ n4_ n5_ n6_ n7_ n8_; (try clear hb); (try clear hb2); (try clear hk); (try clear hi)))
                  go_ret
                  exact ⟨by first | rfl | (simp [errW_none, errW_some] <;> rfl) | (simp [*, errW_none, errW_some] <;> rfl), by repeat (first | (with_reducible first | exact HB.out | apply below_alloc | apply pw_below_drewN | apply below_drew1) | exact HB.out)⟩
                 ·rw [if_neg c95] at H
                  have c95b0 : (t669 == (-1)) = false := beq_eq_false_iff_ne.mpr c95
                  have c95b1 : (t669 != (-1)) = true := bne_iff_ne.mpr c95
                  exact absurd H (by rw [HT.out]; simp)
                ·replace c92 := Bool.eq_false_iff.mpr c92
                 subst c92
                 have H1 : (some false) = some r := by rw [if_neg (show ¬ (false = true) by decide)] at H; exact H
                 clear H
                 have H := H1
                 clear H1
                 exact absurd H (by rw [HT.out]; simp)
               ·rw [if_neg c90] at H
                have c90b0 : (t662 == 0) = false := beq_eq_false_iff_ne.mpr c90
                have c90b1 : (t662 != 0) = true := bne_iff_ne.mpr c90
                exact absurd H (by rw [HT.out]; simp)
        ·rw [if_neg c62] at H
         have c62b0 : (t637 == 0) = false := beq_eq_false_iff_ne.mpr c62
         have c62b1 : (t637 != 0) = true := bne_iff_ne.mpr c62
         by_cases c107 : t637 = 5
         ·rw [if_pos c107] at H
          have c107b0 : (t637 == 5) = true := beq_iff_eq.mpr c107
          have c107b1 : (t637 != 5) = false := bne_eq_false_iff_eq.mpr c107
          clear c107
          replace H := Option.bind_eq_some_iff.mp H
          obtain ⟨t647, A1080, H⟩ := H
          replace H : (some t647) = some r := H
          have A108 := Aside0.mk A1080
          clear A1080
          obtain rfl := Option.some.inj H
          obtain ⟨Ao109, co109, eo109⟩ := Kd.R_slice HO_9.out
          subst eo109
          go_wp2_with (first | ((with_reducible refine gate_callee (f := 23) rfl ?_); refine goesL_ (some 108) rfl rfl Try.func23 (by kernel_rfl) rfl #[.int .i64 t603, .slice Ao109 x9_2.length co109, .slice A1 l1.length c1] rfl (by (try simp only [List.map_toArray, List.map_cons, List.map_nil]); first | done | rfl | (simp only [List.length_drop, List.length_take]; rfl)) ?_; (with_reducible refine (bounds_Fill.calls k2 t603 _ _ x9_2 _ _ l1 t636 t637 _ ?side1 ?side2 ?side3 ?side4 A59.out).mono ?_); (case side1 => repeat (first | exact (Kd.R_reads' HO_9.out).2.2 | (with_reducible refine Kd.C_alloc ?_ _) | (with_reducible refine Kd.C_drewN ?_ _) | (with_reducible refine Kd.C_drew ?_))); (case side2 => exact (Kd.R_reads' HO_9.out).2.1); (case side3 => repeat (first | exact (Kd.C_below HR1.out HB.out) | (with_reducible refine Kd.C_alloc ?_ _) | (with_reducible refine Kd.C_drewN ?_ _) | (with_reducible refine Kd.C_drew ?_))); (case side4 => exact HC1.out); rintro e w110 ⟨v638, rfl, ho0, hb⟩; refine ⟨_, rfl, ?_⟩; have n0_ := Aside0.mk (Kd.R_below (by (with_reducible repeat (first | apply Kd.R_alloc | apply Kd.R_drewN | apply Kd.R_drew)); exact HO_6.out) hb); have n1_ := Aside0.mk (Kd.R_below (by (with_reducible repeat (first | apply Kd.R_alloc | apply Kd.R_drewN | apply Kd.R_drew)); exact HO_9.out) hb); have n2_ := Aside0.mk (Kd.R_lower ho0 (below_size (by repeat (first | (with_reducible first | exact HB.out | apply below_alloc | apply pw_below_drewN | apply below_drew1) | exact HB.out)))); have n3_ := Aside0.mk (below_step (by repeat (first | (with_reducible first | exact HB.out | apply below_alloc | apply pw_below_drewN | apply below_drew1) | exact HB.out)) hb); clear HO_6; clear HO_9; clear HB; have HO_6 := n0_; have HO_9 := n1_; have HO639 := n2_; have HB := n3_; clear n0_ n1_ n2_ n3_; (try clear hb); (try clear hb2); (try clear hk); (try clear hi); (try clear ho0)) | ((with_reducible refine gate_callee (f := 13) rfl ?_); refine goesL_ (some 114) rfl rfl Try.func13 (by kernel_rfl) rfl #[.slice Ao9 t604.length co9] rfl (by (try simp only [List.map_toArray, List.map_cons, List.map_nil]); first | done | rfl | (simp only [List.length_drop, List.length_take]; rfl)) ?_; (with_reducible refine (l14_own.calls k2 _ _ t604 t640 _ ?side1 ?side2 A60.out).mono ?_); (case side1 => repeat (first | exact (Kd.R_reads' HO_6.out).2.2 | (with_reducible refine Kd.C_alloc ?_ _) | (with_reducible refine Kd.C_drewN ?_ _) | (with_reducible refine Kd.C_drew ?_))); (case side2 => exact (Kd.R_reads' HO_6.out).2.1); rintro e w111 ⟨v641, rfl, ho0, hb⟩; refine ⟨_, rfl, ?_⟩; have n0_ := Aside0.mk (Kd.R_below (by (with_reducible repeat (first | apply Kd.R_alloc | apply Kd.R_drewN | apply Kd.R_drew)); exact HO_6.out) hb); have n1_ := Aside0.mk (Kd.R_elder' (by (with_reducible repeat (first | apply Kd.R_alloc | apply Kd.R_drewN | apply Kd.R_drew)); exact HO_9.out) (Kd.R_base ho0) hb); have n2_ := Aside0.mk (Kd.R_below (by (with_reducible repeat (first | apply Kd.R_alloc | apply Kd.R_drewN | apply Kd.R_drew)); exact HO639.out) hb); have n3_ := Aside0.mk (Kd.R_lower (Kd.R_new' ho0 (Kd.R_lt (by (with_reducible repeat (first | apply Kd.R_alloc | apply Kd.R_drewN | apply Kd.R_drew)); exact HO_9.out))) (below_size (by repeat (first | (with_reducible first | exact HB.out | apply below_alloc | apply pw_below_drewN | apply below_drew1) | exact HB.out)))); have n4_ := Aside0.mk (below_step (by repeat (first | (with_reducible first | exact HB.out | apply below_alloc | apply pw_below_drewN | apply below_drew1) | exact HB.out)) hb); clear HO_6; clear HO_9; clear HO639; clear HB; have HO_6 := n0_; have HO_9 := n1_; have HO639 := n2_; have HO642 := n3_; have HB := n4_; clear n0_ n1_ n2_ n3_ n4_; (try clear hb); (try clear hb2); (try clear hk); (try clear hi); (try clear ho0); obtain ⟨Ao112, co112, eo112⟩ := Kd.R_slice HO642.out; subst eo112) | ((with_reducible refine gate_callee (f := 12) rfl ?_); refine goesL_ (some 115) rfl rfl Try.func12 (by kernel_rfl) rfl #[.int .i64 t603, .slice Ao112 t640.length co112] rfl (by (try simp only [List.map_toArray, List.map_cons, List.map_nil]); first | done | rfl | (simp only [List.length_drop, List.length_take]; rfl)) ?_; (with_reducible refine (bounds_Close.calls k2 t603 _ _ t640 t643 t644 _ ?side1 ?side2 A61.out).mono ?_); (case side1 => repeat (first | exact (Kd.R_reads' HO642.out).2.2 | (with_reducible refine Kd.C_alloc ?_ _) | (with_reducible refine Kd.C_drewN ?_ _) | (with_reducible refine Kd.C_drew ?_))); (case side2 => exact (Kd.R_reads' HO642.out).2.1); rintro e w113 ⟨v645, rfl, ho0, hb⟩; refine ⟨_, rfl, ?_⟩; have n0_ := Aside0.mk (Kd.R_below (by (with_reducible repeat (first | apply Kd.R_alloc | apply Kd.R_drewN | apply Kd.R_drew)); exact HO_6.out) hb); have n1_ := Aside0.mk (Kd.R_below (by (with_reducible repeat (first | apply Kd.R_alloc | apply Kd.R_drewN | apply Kd.R_drew)); exact HO_9.out) hb); have n2_ := Aside0.mk (Kd.R_below (by (with_reducible repeat (first | apply Kd.R_alloc | apply Kd.R_drewN | apply Kd.R_drew)); exact HO639.out) hb); have n3_ := Aside0.mk (Kd.R_below (by (with_reducible repeat (first | apply Kd.R_alloc | apply Kd.R_drewN | apply Kd.R_drew)); exact HO642.out) hb); have n4_ := Aside0.mk (Kd.S_lower (Kd.S_new' ho0 (Kd.R_lt (by (with_reducible repeat (first | apply Kd.R_alloc | apply Kd.R_drewN | apply Kd.R_drew)); exact HO639.out))) (below_size (by repeat (first | (with_reducible first | exact HB.out | apply below_alloc | apply pw_below_drewN | apply below_drew1) | exact HB.out)))); have n5_ := Aside0.mk (below_step (by repeat (first | (with_reducible first | exact HB.out | apply below_alloc | apply pw_below_drewN | apply below_drew1) | exact HB.out)) hb); clear HO_6; clear HO_9; clear HO639; clear HO642; clear HB; have HO_6 := n0_; have HO_9 := n1_; have HO639 := n2_; have HO642 := n3_; have HO646 := n4_; have HB := n5_; clear n0_ n1_ n2_ n3_ n4_ n5_; (try clear hb); (try clear hb2); (try clear hk); (try clear hi); (try clear ho0)) | (go_at_call 19; (with_reducible refine (l14_lives.calls k2  t647 _ A108.out).mono ?_); rintro e w114 ⟨rfl, hb⟩; have n0_ := Aside0.mk (Kd.R_below (by (with_reducible repeat (first | apply Kd.R_alloc | apply Kd.R_drewN | apply Kd.R_drew)); exact HO_6.out) hb); have n1_ := Aside0.mk (Kd.R_below (by (with_reducible repeat (first | apply Kd.R_alloc | apply Kd.R_drewN | apply Kd.R_drew)); exact HO_9.out) hb); have n2_ := Aside0.mk (Kd.R_below (by (with_reducible repeat (first | apply Kd.R_alloc | apply Kd.R_drewN | apply Kd.R_drew)); exact HO639.out) hb); have n3_ := Aside0.mk (Kd.R_below (by (with_reducible repeat (first | apply Kd.R_alloc | apply Kd.R_drewN | apply Kd.R_drew)); exact HO642.out) hb); have n4_ := Aside0.mk (Kd.S_below (by (with_reducible repeat (first | apply Kd.S_alloc | apply Kd.S_drewN | apply Kd.S_drew)); exact HO646.out) hb); have n5_ := Aside0.mk (below_step (by repeat (first | (with_reducible first | exact HB.out | apply below_alloc | apply pw_below_drewN | apply below_drew1) | exact HB.out)) hb); clear HO_6; clear HO_9; clear HO639; clear HO642; clear HO646; clear HB; have HO_6 := n0_; have HO_9 := n1_; have HO639 := n2_; have HO642 := n3_; have HO646 := n4_; have HB := n5_; clear n0_ n1_ n2_ n3_ n4_ n5_; (try clear hb); (try clear hb2); (try clear hk); (try clear hi)))
          go_ret
          exact ⟨by first | rfl | (simp [errW_none, errW_some] <;> rfl) | (simp [*, errW_none, errW_some] <;> rfl), by repeat (first | (with_reducible first | exact HB.out | apply below_alloc | apply pw_below_drewN | apply below_drew1) | exact HB.out)⟩
         ·rw [if_neg c107] at H
          have c107b0 : (t637 == 5) = false := beq_eq_false_iff_ne.mpr c107
          have c107b1 : (t637 != 5) = true := bne_iff_ne.mpr c107
          exact absurd H (by rw [HT.out]; simp)
 ·rw [if_neg c6] at H
  have c6b0 : (t611 == 0) = false := beq_eq_false_iff_ne.mpr c6
  have c6b1 : (t611 != 0) = true := bne_iff_ne.mpr c6
  by_cases c115 : t611 = 14
  ·rw [if_pos c115] at H
   have c115b0 : (t611 == 14) = true := beq_iff_eq.mpr c115
   have c115b1 : (t611 != 14) = false := bne_eq_false_iff_eq.mpr c115
   clear c115
   replace H := Option.bind_eq_some_iff.mp H
   obtain ⟨t614, A1160, H⟩ := H
   replace H : (some t614) = some r := H
   have A116 := Aside0.mk A1160
   clear A1160
   obtain rfl := Option.some.inj H
   go_enter Try.func6, Try.ntmps6
   go_wp2_with (first | ((with_reducible refine gate_callee (f := 9) rfl ?_); refine goesL_ (some 27) rfl rfl Try.func9 (by kernel_rfl) rfl #[.slice A0 l0.length c0] rfl (by (try simp only [List.map_toArray, List.map_cons, List.map_nil]); first | done | rfl | (simp only [List.length_drop, List.length_take]; rfl)) ?_; (with_reducible refine (r14_Made.calls k _ _ l0 t603 t604 _ ?side1 ?side2 A3.out).mono ?_); (case side1 => repeat (first | exact HR0.out | (with_reducible refine Kd.C_alloc ?_ _) | (with_reducible refine Kd.C_drewN ?_ _) | (with_reducible refine Kd.C_drew ?_))); (case side2 => exact HC0.out); rintro e w117 ⟨v605, rfl, ho0, hb⟩; refine ⟨_, rfl, ?_⟩; have n0_ := Aside0.mk (Kd.R_lower ho0 (below_size (by repeat (first | (with_reducible first | exact HB.out | apply below_alloc | apply pw_below_drewN | apply below_drew1) | exact HB.out)))); have n1_ := Aside0.mk (below_step (by repeat (first | (with_reducible first | exact HB.out | apply below_alloc | apply pw_below_drewN | apply below_drew1) | exact HB.out)) hb); clear HB; have HO606 := n0_; have HB := n1_; clear n0_ n1_; (try clear hb); (try clear hb2); (try clear hk); (try clear hi); (try clear ho0); obtain ⟨Ao118, co118, eo118⟩ := Kd.R_slice HO606.out; subst eo118) | ((with_reducible refine gate_callee (f := 13) rfl ?_); refine goesL_ (some 33) rfl rfl Try.func13 (by kernel_rfl) rfl #[.slice Ao118 t604.length co118] rfl (by (try simp only [List.map_toArray, List.map_cons, List.map_nil]); first | done | rfl | (simp only [List.length_drop, List.length_take]; rfl)) ?_; (with_reducible refine (l14_own.calls k _ _ t604 t607 _ ?side1 ?side2 A4.out).mono ?_); (case side1 => repeat (first | exact (Kd.R_reads' HO606.out).2.2 | (with_reducible refine Kd.C_alloc ?_ _) | (with_reducible refine Kd.C_drewN ?_ _) | (with_reducible refine Kd.C_drew ?_))); (case side2 => exact (Kd.R_reads' HO606.out).2.1); rintro e w119 ⟨v608, rfl, ho0, hb⟩; refine ⟨_, rfl, ?_⟩; have n0_ := Aside0.mk (Kd.R_below (by (with_reducible repeat (first | apply Kd.R_alloc | apply Kd.R_drewN | apply Kd.R_drew)); exact HO606.out) hb); have n1_ := Aside0.mk (Kd.R_lower ho0 (below_size (by repeat (first | (with_reducible first | exact HB.out | apply below_alloc | apply pw_below_drewN | apply below_drew1) | exact HB.out)))); have n2_ := Aside0.mk (below_step (by repeat (first | (with_reducible first | exact HB.out | apply below_alloc | apply pw_below_drewN | apply below_drew1) | exact HB.out)) hb); clear HO606; clear HB; have HO606 := n0_; have HO609 := n1_; have HB := n2_; clear n0_ n1_ n2_; (try clear hb); (try clear hb2); (try clear hk); (try clear hi); (try clear ho0); obtain ⟨Ao120, co120, eo120⟩ := Kd.R_slice HO609.out; subst eo120) | ((with_reducible refine gate_callee (f := 23) rfl ?_); refine goesL_ (some 35) rfl rfl Try.func23 (by kernel_rfl) rfl #[.int .i64 t603, .slice Ao120 t607.length co120, .slice A1 l1.length c1] rfl (by (try simp only [List.map_toArray, List.map_cons, List.map_nil]); first | done | rfl | (simp only [List.length_drop, List.length_take]; rfl)) ?_; (with_reducible refine (bounds_Fill.calls k t603 _ _ t607 _ _ l1 t610 t611 _ ?side1 ?side2 ?side3 ?side4 A5.out).mono ?_); (case side1 => repeat (first | exact (Kd.R_reads' HO609.out).2.2 | (with_reducible refine Kd.C_alloc ?_ _) | (with_reducible refine Kd.C_drewN ?_ _) | (with_reducible refine Kd.C_drew ?_))); (case side2 => exact (Kd.R_reads' HO609.out).2.1); (case side3 => repeat (first | exact (Kd.C_below HR1.out HB.out) | (with_reducible refine Kd.C_alloc ?_ _) | (with_reducible refine Kd.C_drewN ?_ _) | (with_reducible refine Kd.C_drew ?_))); (case side4 => exact HC1.out); rintro e w121 ⟨v612, rfl, ho0, hb⟩; refine ⟨_, rfl, ?_⟩; have n0_ := Aside0.mk (Kd.R_below (by (with_reducible repeat (first | apply Kd.R_alloc | apply Kd.R_drewN | apply Kd.R_drew)); exact HO606.out) hb); have n1_ := Aside0.mk (Kd.R_below (by (with_reducible repeat (first | apply Kd.R_alloc | apply Kd.R_drewN | apply Kd.R_drew)); exact HO609.out) hb); have n2_ := Aside0.mk (Kd.R_lower ho0 (below_size (by repeat (first | (with_reducible first | exact HB.out | apply below_alloc | apply pw_below_drewN | apply below_drew1) | exact HB.out)))); have n3_ := Aside0.mk (below_step (by repeat (first | (with_reducible first | exact HB.out | apply below_alloc | apply pw_below_drewN | apply below_drew1) | exact HB.out)) hb); clear HO606; clear HO609; clear HB; have HO606 := n0_; have HO609 := n1_; have HO613 := n2_; have HB := n3_; clear n0_ n1_ n2_ n3_; (try clear hb); (try clear hb2); (try clear hk); (try clear hi); (try clear ho0)) | (go_at_call 19; (with_reducible refine (l14_lives.calls k  t614 _ A116.out).mono ?_); rintro e w122 ⟨rfl, hb⟩; have n0_ := Aside0.mk (Kd.R_below (by (with_reducible repeat (first | apply Kd.R_alloc | apply Kd.R_drewN | apply Kd.R_drew)); exact HO606.out) hb); have n1_ := Aside0.mk (Kd.R_below (by (with_reducible repeat (first | apply Kd.R_alloc | apply Kd.R_drewN | apply Kd.R_drew)); exact HO609.out) hb); have n2_ := Aside0.mk (Kd.R_below (by (with_reducible repeat (first | apply Kd.R_alloc | apply Kd.R_drewN | apply Kd.R_drew)); exact HO613.out) hb); have n3_ := Aside0.mk (below_step (by repeat (first | (with_reducible first | exact HB.out | apply below_alloc | apply pw_below_drewN | apply below_drew1) | exact HB.out)) hb); clear HO606; clear HO609; clear HO613; clear HB; have HO606 := n0_; have HO609 := n1_; have HO613 := n2_; have HB := n3_; clear n0_ n1_ n2_ n3_; (try clear hb); (try clear hb2); (try clear hk); (try clear hi)))
   go_ret
   exact ⟨by first | rfl | (simp [errW_none, errW_some] <;> rfl) | (simp [*, errW_none, errW_some] <;> rfl), by repeat (first | (with_reducible first | exact HB.out | apply below_alloc | apply pw_below_drewN | apply below_drew1) | exact HB.out)⟩
  ·rw [if_neg c115] at H
   have c115b0 : (t611 == 14) = false := beq_eq_false_iff_ne.mpr c115
   have c115b1 : (t611 != 14) = true := bne_iff_ne.mpr c115
   by_cases c123 : t611 = 5
   ·rw [if_pos c123] at H
    have c123b0 : (t611 == 5) = true := beq_iff_eq.mpr c123
    have c123b1 : (t611 != 5) = false := bne_eq_false_iff_eq.mpr c123
    clear c123
    replace H := Option.bind_eq_some_iff.mp H
    obtain ⟨t615, A1240, H⟩ := H
    replace H : (some t615) = some r := H
    have A124 := Aside0.mk A1240
    clear A1240
    obtain rfl := Option.some.inj H
    go_enter Try.func6, Try.ntmps6
    go_wp2_with (first | ((with_reducible refine gate_callee (f := 9) rfl ?_); refine goesL_ (some 27) rfl rfl Try.func9 (by kernel_rfl) rfl #[.slice A0 l0.length c0] rfl (by (try simp only [List.map_toArray, List.map_cons, List.map_nil]); first | done | rfl | (simp only [List.length_drop, List.length_take]; rfl)) ?_; (with_reducible refine (r14_Made.calls k _ _ l0 t603 t604 _ ?side1 ?side2 A3.out).mono ?_); (case side1 => repeat (first | exact HR0.out | (with_reducible refine Kd.C_alloc ?_ _) | (with_reducible refine Kd.C_drewN ?_ _) | (with_reducible refine Kd.C_drew ?_))); (case side2 => exact HC0.out); rintro e w125 ⟨v605, rfl, ho0, hb⟩; refine ⟨_, rfl, ?_⟩; have n0_ := Aside0.mk (Kd.R_lower ho0 (below_size (by repeat (first | (with_reducible first | exact HB.out | apply below_alloc | apply pw_below_drewN | apply below_drew1) | exact HB.out)))); have n1_ := Aside0.mk (below_step (by repeat (first | (with_reducible first | exact HB.out | apply below_alloc | apply pw_below_drewN | apply below_drew1) | exact HB.out)) hb); clear HB; have HO606 := n0_; have HB := n1_; clear n0_ n1_; (try clear hb); (try clear hb2); (try clear hk); (try clear hi); (try clear ho0); obtain ⟨Ao126, co126, eo126⟩ := Kd.R_slice HO606.out; subst eo126) | ((with_reducible refine gate_callee (f := 13) rfl ?_); refine goesL_ (some 33) rfl rfl Try.func13 (by kernel_rfl) rfl #[.slice Ao126 t604.length co126] rfl (by (try simp only [List.map_toArray, List.map_cons, List.map_nil]); first | done | rfl | (simp only [List.length_drop, List.length_take]; rfl)) ?_; (with_reducible refine (l14_own.calls k _ _ t604 t607 _ ?side1 ?side2 A4.out).mono ?_); (case side1 => repeat (first | exact (Kd.R_reads' HO606.out).2.2 | (with_reducible refine Kd.C_alloc ?_ _) | (with_reducible refine Kd.C_drewN ?_ _) | (with_reducible refine Kd.C_drew ?_))); (case side2 => exact (Kd.R_reads' HO606.out).2.1); rintro e w127 ⟨v608, rfl, ho0, hb⟩; refine ⟨_, rfl, ?_⟩; have n0_ := Aside0.mk (Kd.R_below (by (with_reducible repeat (first | apply Kd.R_alloc | apply Kd.R_drewN | apply Kd.R_drew)); exact HO606.out) hb); have n1_ := Aside0.mk (Kd.R_lower ho0 (below_size (by repeat (first | (with_reducible first | exact HB.out | apply below_alloc | apply pw_below_drewN | apply below_drew1) | exact HB.out)))); have n2_ := Aside0.mk (below_step (by repeat (first | (with_reducible first | exact HB.out | apply below_alloc | apply pw_below_drewN | apply below_drew1) | exact HB.out)) hb); clear HO606; clear HB; have HO606 := n0_; have HO609 := n1_; have HB := n2_; clear n0_ n1_ n2_; (try clear hb); (try clear hb2); (try clear hk); (try clear hi); (try clear ho0); obtain ⟨Ao128, co128, eo128⟩ := Kd.R_slice HO609.out; subst eo128) | ((with_reducible refine gate_callee (f := 23) rfl ?_); refine goesL_ (some 35) rfl rfl Try.func23 (by kernel_rfl) rfl #[.int .i64 t603, .slice Ao128 t607.length co128, .slice A1 l1.length c1] rfl (by (try simp only [List.map_toArray, List.map_cons, List.map_nil]); first | done | rfl | (simp only [List.length_drop, List.length_take]; rfl)) ?_; (with_reducible refine (bounds_Fill.calls k t603 _ _ t607 _ _ l1 t610 t611 _ ?side1 ?side2 ?side3 ?side4 A5.out).mono ?_); (case side1 => repeat (first | exact (Kd.R_reads' HO609.out).2.2 | (with_reducible refine Kd.C_alloc ?_ _) | (with_reducible refine Kd.C_drewN ?_ _) | (with_reducible refine Kd.C_drew ?_))); (case side2 => exact (Kd.R_reads' HO609.out).2.1); (case side3 => repeat (first | exact (Kd.C_below HR1.out HB.out) | (with_reducible refine Kd.C_alloc ?_ _) | (with_reducible refine Kd.C_drewN ?_ _) | (with_reducible refine Kd.C_drew ?_))); (case side4 => exact HC1.out); rintro e w129 ⟨v612, rfl, ho0, hb⟩; refine ⟨_, rfl, ?_⟩; have n0_ := Aside0.mk (Kd.R_below (by (with_reducible repeat (first | apply Kd.R_alloc | apply Kd.R_drewN | apply Kd.R_drew)); exact HO606.out) hb); have n1_ := Aside0.mk (Kd.R_below (by (with_reducible repeat (first | apply Kd.R_alloc | apply Kd.R_drewN | apply Kd.R_drew)); exact HO609.out) hb); have n2_ := Aside0.mk (Kd.R_lower ho0 (below_size (by repeat (first | (with_reducible first | exact HB.out | apply below_alloc | apply pw_below_drewN | apply below_drew1) | exact HB.out)))); have n3_ := Aside0.mk (below_step (by repeat (first | (with_reducible first | exact HB.out | apply below_alloc | apply pw_below_drewN | apply below_drew1) | exact HB.out)) hb); clear HO606; clear HO609; clear HB; have HO606 := n0_; have HO609 := n1_; have HO613 := n2_; have HB := n3_; clear n0_ n1_ n2_ n3_; (try clear hb); (try clear hb2); (try clear hk); (try clear hi); (try clear ho0)) | (go_at_call 19; (with_reducible refine (l14_lives.calls k  t615 _ A124.out).mono ?_); rintro e w130 ⟨rfl, hb⟩; have n0_ := Aside0.mk (Kd.R_below (by (with_reducible repeat (first | apply Kd.R_alloc | apply Kd.R_drewN | apply Kd.R_drew)); exact HO606.out) hb); have n1_ := Aside0.mk (Kd.R_below (by (with_reducible repeat (first | apply Kd.R_alloc | apply Kd.R_drewN | apply Kd.R_drew)); exact HO609.out) hb); have n2_ := Aside0.mk (Kd.R_below (by (with_reducible repeat (first | apply Kd.R_alloc | apply Kd.R_drewN | apply Kd.R_drew)); exact HO613.out) hb); have n3_ := Aside0.mk (below_step (by repeat (first | (with_reducible first | exact HB.out | apply below_alloc | apply pw_below_drewN | apply below_drew1) | exact HB.out)) hb); clear HO606; clear HO609; clear HO613; clear HB; have HO606 := n0_; have HO609 := n1_; have HO613 := n2_; have HB := n3_; clear n0_ n1_ n2_ n3_; (try clear hb); (try clear hb2); (try clear hk); (try clear hi)))
    go_ret
    exact ⟨by first | rfl | (simp [errW_none, errW_some] <;> rfl) | (simp [*, errW_none, errW_some] <;> rfl), by repeat (first | (with_reducible first | exact HB.out | apply below_alloc | apply pw_below_drewN | apply below_drew1) | exact HB.out)⟩
   ·rw [if_neg c123] at H
    have c123b0 : (t611 == 5) = false := beq_eq_false_iff_ne.mpr c123
    have c123b1 : (t611 != 5) = true := bne_iff_ne.mpr c123
    exact absurd H (by rw [HT.out]; simp)

/-- THE ONE PURE STATEMENT of l14_BoundsFilled: yours. -/
def l14_BoundsFilled.Pure : Prop := ∀ (l0 : List Int) (l1 : List Int), l0.length ≤ maxLen → l0.length * 8 ≤ 140737488351232 → (∀ x ∈ l0, (Lit.int .i64 x).wf = true) → l1.length ≤ maxLen → l1.length * 8 ≤ 140737488351232 → (∀ x ∈ l1, (Lit.int .i64 x).wf = true) → ∃ k, l14_BoundsFilled.f k l0 l1 = some true
theorem l14_BoundsFilled.walk (P : l14_BoundsFilled.Pure) (a0 : Option Addr) (len0 cap0 : Nat) (z0 : List Int) (a1 : Option Addr) (len1 cap1 : Nat) (z1 : List Int) (w : World) (w0 : (a0 = none ∧ len0 = 0 ∧ cap0 = 0 ∧ z0 = []) ∨ ∃ x, a0 = some x ∧ len0 ≤ cap0 ∧ cap0 ≤ maxLen ∧ z0.length = cap0 ∧ (∀ i, i < z0.length → w.cell? (x.add i) = some (.int .i64 (z0.getD i 0))) ∧ ∀ n ∈ z0, (Lit.int .i64 n).wf = true) (y0 : len0 * 8 ≤ 140737488351232) (w1 : (a1 = none ∧ len1 = 0 ∧ cap1 = 0 ∧ z1 = []) ∨ ∃ x, a1 = some x ∧ len1 ≤ cap1 ∧ cap1 ≤ maxLen ∧ z1.length = cap1 ∧ (∀ i, i < z1.length → w.cell? (x.add i) = some (.int .i64 (z1.getD i 0))) ∧ ∀ n ∈ z1, (Lit.int .i64 n).wf = true) (y1 : len1 * 8 ≤ 140737488351232) :
  Calls Try.prog 6 #[.slice a0 len0 cap0, .slice a1 len1 cap1] w fun e w' => e = .returned (.bool true) ∧ Below w.heap.size w w' := by
 obtain ⟨l0, rfl, hr0, hm0, hw0, hc0⟩ := ReadsInt.ofRowC w0
 obtain ⟨l1, rfl, hr1, hm1, hw1, hc1⟩ := ReadsInt.ofRowC w1
 obtain ⟨k, h⟩ := P l0 l1 hm0 y0 hw0 hm1 y1 hw1
 refine (l14_BoundsFilled.calls k _ _ l0 _ _ l1 true w (Kd.C_of_reads (d := (0 : Int)) (h1 := fun _ => rfl) hr0) hc0 (Kd.C_of_reads (d := (0 : Int)) (h1 := fun _ => rfl) hr1) hc1 h rfl).mono ?_
 rintro e w' ⟨rfl, hd⟩
 exact ⟨rfl, hd⟩

end Go.Proofs.Ytcnkjcbjlopkmaa.Q
