-- Written out of the translation by a program of this session (wip/tools/myprint.py, over the kit's print). Lean checks it.
import Derived.Test.YtcnkjcbjlopkmaaRan
import Derived.Deep.RegionWith
import Derived.Test.YtcnkjcbjlopkmaaSh
import Derived.Test.YtcnkjcbjlopkmaaQ0
import Derived.Test.YtcnkjcbjlopkmaaQ1
import Derived.Test.YtcnkjcbjlopkmaaQ7
import Derived.Test.YtcnkjcbjlopkmaaQ12
import Derived.Test.YtcnkjcbjlopkmaaQ14
import Derived.Test.YtcnkjcbjlopkmaaQ15
namespace Go.Proofs.Ytcnkjcbjlopkmaa.Q
open Go.RowKit Go.Proofs.YtcnkjcbjlopkmaaW.PrintWords Go.Proofs.YtcnkjcbjlopkmaaW.PrintLast Go.Proofs.YtcnkjcbjlopkmaaW.PrintMore
attribute [local go_sem] max2_int min2_int max_two min_two max_three min_three max_four min_four   -- for this text's walks alone
set_option linter.unusedVariables false
set_option linter.unusedSimpArgs false

/-! ### l14_BoundsRanges: function 4 -/
mutual
def l14_BoundsRanges.l0 : Nat → List Int → List (List Int) → Int → Int → List (List Int) → List (List Int) → Int → Option (Bool)
 | 0, _, _, _, _, _, _, _ => none
 | k + 1, x1, x4, x2, x3, x13, x15, x16 => if x16 < (x13.length : Int) then ((some (([] : List Int) : List Int)).bind fun y496 => (if 0 ≤ x16 then (if y496.length + (rd_L4 x13 x16).length < 17592186044416 then (if x15.length < 5864062014805 then (l14_BoundsRanges.l0 k x1 x4 x2 x3 x13 (x15 ++ [(y496 ++ (rd_L4 x13 x16))]) (wrap64 (x16 + 1))) else (none)) else (none)) else (none))) else (if (x15.length : Int) > 0 then ((r01_Around.f x2 (x15.length : Int)).bind fun i_ => ((r01_Around.f (wrap64 (Int.tdiv x2 11)) (x15.length : Int)).bind fun j_ => ((r01_Around.f x3 5).bind fun q_ => (if 0 ≤ i_ then (if i_ < (x15.length : Int) then (if 0 ≤ j_ then (if j_ < ((rd_L4 x15 i_).length : Int) then (if 0 ≤ q_ then (if q_ < 5 then (l14_BoundsRanges.j1 k x1 x4 x13 (x15.set i_.toNat ((rd_L4 x15 i_).set j_.toNat (rd [x3, 1099511627776, -1099511627776, 1099511627777, 0] q_)))) else (none)) else (none)) else (none)) else (none)) else (none)) else (none))))) else (l14_BoundsRanges.j1 k x1 x4 x13 x15))
def l14_BoundsRanges.j1 : Nat → List Int → List (List Int) → List (List Int) → List (List Int) → Option (Bool)
 | 0, _, _, _, _ => none
 | k + 1, x1, x4, x13, x15 => l14_BoundsRanges.l1 k x1 x4 x13 x15 ([] : List (List Int)) 0
def l14_BoundsRanges.j3 : Nat → List Int → List (List Int) → List (List Int) → List (List Int) → Option (Bool)
 | 0, _, _, _, _ => none
 | k + 1, x1, x13, x15, x17 => l14_BoundsRanges.l2 k x1 (([x13, x15, x17, []] : List (List (List Int)))) 0
def l14_BoundsRanges.l2 : Nat → List Int → List (List (List Int)) → Int → Option (Bool)
 | 0, _, _, _ => none
 | k + 1, x1, x19, x20 => if x20 < (x19.length : Int) then (l14_BoundsRanges.l3 k x1 x19 x20 0) else ((l14_lives.f k).bind fun t516 => (some t516))
def l14_BoundsRanges.l3 : Nat → List Int → List (List (List Int)) → Int → Int → Option (Bool)
 | 0, _, _, _, _ => none
 | k + 1, x1, x19, x20, x21 => if x21 ≤ (x1.length : Int) then (l14_BoundsRanges.j6 k x1 x19 x20 x21 (decide (x21 < 8))) else (l14_BoundsRanges.j6 k x1 x19 x20 x21 false)
def l14_BoundsRanges.j6 : Nat → List Int → List (List (List Int)) → Int → Int → Bool → Option (Bool)
 | 0, _, _, _, _, _ => none
 | k + 1, x1, x19, x20, x21, x111 => if x111 = true then (if 0 ≤ x20 then (if x20 < (x19.length : Int) then (if 0 ≤ x21 then (if x21 ≤ (x1.length : Int) then ((bounds_Range.f (rd_L6 x19 x20) (x1.take (x21 : Int).toNat)).bind fun bt519 => ((r14_Range.f k (rd_L6 x19 x20) (x1.take (x21 : Int).toNat)).bind fun bt524 => (if bt519.1 = bt524.1 then (if bt519.2.1 = bt524.2.1 then (if bt519.2.2 = bt524.2.2 then (l14_BoundsRanges.l3 k x1 x19 x20 (wrap64 (x21 + 1))) else (some false)) else (some false)) else (some false)))) else (none)) else (none)) else (none)) else (none)) else (l14_BoundsRanges.l2 k x1 x19 (wrap64 (x20 + 1)))
def l14_BoundsRanges.l1 : Nat → List Int → List (List Int) → List (List Int) → List (List Int) → List (List Int) → Int → Option (Bool)
 | 0, _, _, _, _, _, _ => none
 | k + 1, x1, x4, x13, x15, x17, x18 => if x18 < (x4.length : Int) then (if x18 < 12 then (if 0 ≤ x18 then ((r01_Take.f (rd_L4 x4 x18) 12).bind fun t507 => (if x17.length < 5864062014805 then (l14_BoundsRanges.l1 k x1 x4 x13 x15 (x17 ++ [t507]) (wrap64 (x18 + 1))) else (none))) else (none)) else (l14_BoundsRanges.j3 k x1 x13 x15 x17)) else (l14_BoundsRanges.j3 k x1 x13 x15 x17)
end
def l14_BoundsRanges.f (k : Nat) (l0 : List Int) (l1 : List Int) (a2 : Int) (a3 : Int) (l4 : List (List Int)) : Option (Bool) := (r14_Made.f k l0).bind fun bt488 => ((r14_Close.f k bt488.1 bt488.2).bind fun bt492 => (l14_BoundsRanges.l0 k l1 l4 a2 a3 bt492.1 ([] : List (List Int)) 0))
theorem l14_BoundsRanges.mono_l : ∀ k, (∀ y0 y1 z0 z1 y2 y3 y4, LeO (l14_BoundsRanges.l0 k y0 y1 z0 z1 y2 y3 y4) (l14_BoundsRanges.l0 (k + 1) y0 y1 z0 z1 y2 y3 y4)) ∧ (∀ y0 y1 y2 y3, LeO (l14_BoundsRanges.j1 k y0 y1 y2 y3) (l14_BoundsRanges.j1 (k + 1) y0 y1 y2 y3)) ∧ (∀ y0 y1 y2 y3, LeO (l14_BoundsRanges.j3 k y0 y1 y2 y3) (l14_BoundsRanges.j3 (k + 1) y0 y1 y2 y3)) ∧ (∀ y0 y1 y2, LeO (l14_BoundsRanges.l2 k y0 y1 y2) (l14_BoundsRanges.l2 (k + 1) y0 y1 y2)) ∧ (∀ y0 y1 y2 y3, LeO (l14_BoundsRanges.l3 k y0 y1 y2 y3) (l14_BoundsRanges.l3 (k + 1) y0 y1 y2 y3)) ∧ (∀ y0 y1 y2 y3 y4, LeO (l14_BoundsRanges.j6 k y0 y1 y2 y3 y4) (l14_BoundsRanges.j6 (k + 1) y0 y1 y2 y3 y4)) ∧ (∀ y0 y1 y2 y3 y4 y5, LeO (l14_BoundsRanges.l1 k y0 y1 y2 y3 y4 y5) (l14_BoundsRanges.l1 (k + 1) y0 y1 y2 y3 y4 y5))
 | 0 => ⟨fun _ _ _ _ _ _ _ r h => by simp [l14_BoundsRanges.l0] at h, fun _ _ _ _ r h => by simp [l14_BoundsRanges.j1] at h, fun _ _ _ _ r h => by simp [l14_BoundsRanges.j3] at h, fun _ _ _ r h => by simp [l14_BoundsRanges.l2] at h, fun _ _ _ _ r h => by simp [l14_BoundsRanges.l3] at h, fun _ _ _ _ _ r h => by simp [l14_BoundsRanges.j6] at h, fun _ _ _ _ _ _ r h => by simp [l14_BoundsRanges.l1] at h⟩
 | k + 1 => by
  obtain ⟨ih0, ih1, ih2, ih3, ih4, ih5, ih6⟩ := l14_BoundsRanges.mono_l k
  refine ⟨?_, ?_, ?_, ?_, ?_, ?_, ?_⟩
  ·intro y0 y1 z0 z1 y2 y3 y4
   unfold l14_BoundsRanges.l0
   repeat' first
   | (with_reducible exact ih0 _ _ _ _ _ _ _)
   | (with_reducible exact ih1 _ _ _ _)
   | (with_reducible exact ih2 _ _ _ _)
   | (with_reducible exact ih3 _ _ _)
   | (with_reducible exact ih4 _ _ _ _)
   | (with_reducible exact ih5 _ _ _ _ _)
   | (with_reducible exact ih6 _ _ _ _ _ _)
   | (with_reducible exact l14_lives.mono _)
   | (with_reducible exact r14_Close.mono _ _ _)
   | (with_reducible exact r14_Made.mono _ _)
   | (with_reducible exact r14_Range.mono _ _ _)
   | (with_reducible exact LeO.refl _)
   | (with_reducible exact LeO.none _)
   | (with_reducible refine LeO.ite ?_ ?_)
   | (with_reducible refine LeO.bind ?_ (fun _ => ?_))
   | exact ih0 _ _ _ _ _ _ _
   | exact ih1 _ _ _ _
   | exact ih2 _ _ _ _
   | exact ih3 _ _ _
   | exact ih4 _ _ _ _
   | exact ih5 _ _ _ _ _
   | exact ih6 _ _ _ _ _ _
   | exact l14_lives.mono _
   | exact r14_Close.mono _ _ _
   | exact r14_Made.mono _ _
   | exact r14_Range.mono _ _ _
   | exact LeO.none _
   | refine LeO.ite ?_ ?_
   | refine LeO.bind ?_ (fun _ => ?_)
  ·intro y0 y1 y2 y3
   unfold l14_BoundsRanges.j1
   repeat' first
   | (with_reducible exact ih0 _ _ _ _ _ _ _)
   | (with_reducible exact ih1 _ _ _ _)
   | (with_reducible exact ih2 _ _ _ _)
   | (with_reducible exact ih3 _ _ _)
   | (with_reducible exact ih4 _ _ _ _)
   | (with_reducible exact ih5 _ _ _ _ _)
   | (with_reducible exact ih6 _ _ _ _ _ _)
   | (with_reducible exact l14_lives.mono _)
   | (with_reducible exact r14_Close.mono _ _ _)
   | (with_reducible exact r14_Made.mono _ _)
   | (with_reducible exact r14_Range.mono _ _ _)
   | (with_reducible exact LeO.refl _)
   | (with_reducible exact LeO.none _)
   | (with_reducible refine LeO.ite ?_ ?_)
   | (with_reducible refine LeO.bind ?_ (fun _ => ?_))
   | exact ih0 _ _ _ _ _ _ _
   | exact ih1 _ _ _ _
   | exact ih2 _ _ _ _
   | exact ih3 _ _ _
   | exact ih4 _ _ _ _
   | exact ih5 _ _ _ _ _
   | exact ih6 _ _ _ _ _ _
   | exact l14_lives.mono _
   | exact r14_Close.mono _ _ _
   | exact r14_Made.mono _ _
   | exact r14_Range.mono _ _ _
   | exact LeO.none _
   | refine LeO.ite ?_ ?_
   | refine LeO.bind ?_ (fun _ => ?_)
  ·intro y0 y1 y2 y3
   unfold l14_BoundsRanges.j3
   repeat' first
   | (with_reducible exact ih0 _ _ _ _ _ _ _)
   | (with_reducible exact ih1 _ _ _ _)
   | (with_reducible exact ih2 _ _ _ _)
   | (with_reducible exact ih3 _ _ _)
   | (with_reducible exact ih4 _ _ _ _)
   | (with_reducible exact ih5 _ _ _ _ _)
   | (with_reducible exact ih6 _ _ _ _ _ _)
   | (with_reducible exact l14_lives.mono _)
   | (with_reducible exact r14_Close.mono _ _ _)
   | (with_reducible exact r14_Made.mono _ _)
   | (with_reducible exact r14_Range.mono _ _ _)
   | (with_reducible exact LeO.refl _)
   | (with_reducible exact LeO.none _)
   | (with_reducible refine LeO.ite ?_ ?_)
   | (with_reducible refine LeO.bind ?_ (fun _ => ?_))
   | exact ih0 _ _ _ _ _ _ _
   | exact ih1 _ _ _ _
   | exact ih2 _ _ _ _
   | exact ih3 _ _ _
   | exact ih4 _ _ _ _
   | exact ih5 _ _ _ _ _
   | exact ih6 _ _ _ _ _ _
   | exact l14_lives.mono _
   | exact r14_Close.mono _ _ _
   | exact r14_Made.mono _ _
   | exact r14_Range.mono _ _ _
   | exact LeO.none _
   | refine LeO.ite ?_ ?_
   | refine LeO.bind ?_ (fun _ => ?_)
  ·intro y0 y1 y2
   unfold l14_BoundsRanges.l2
   repeat' first
   | (with_reducible exact ih0 _ _ _ _ _ _ _)
   | (with_reducible exact ih1 _ _ _ _)
   | (with_reducible exact ih2 _ _ _ _)
   | (with_reducible exact ih3 _ _ _)
   | (with_reducible exact ih4 _ _ _ _)
   | (with_reducible exact ih5 _ _ _ _ _)
   | (with_reducible exact ih6 _ _ _ _ _ _)
   | (with_reducible exact l14_lives.mono _)
   | (with_reducible exact r14_Close.mono _ _ _)
   | (with_reducible exact r14_Made.mono _ _)
   | (with_reducible exact r14_Range.mono _ _ _)
   | (with_reducible exact LeO.refl _)
   | (with_reducible exact LeO.none _)
   | (with_reducible refine LeO.ite ?_ ?_)
   | (with_reducible refine LeO.bind ?_ (fun _ => ?_))
   | exact ih0 _ _ _ _ _ _ _
   | exact ih1 _ _ _ _
   | exact ih2 _ _ _ _
   | exact ih3 _ _ _
   | exact ih4 _ _ _ _
   | exact ih5 _ _ _ _ _
   | exact ih6 _ _ _ _ _ _
   | exact l14_lives.mono _
   | exact r14_Close.mono _ _ _
   | exact r14_Made.mono _ _
   | exact r14_Range.mono _ _ _
   | exact LeO.none _
   | refine LeO.ite ?_ ?_
   | refine LeO.bind ?_ (fun _ => ?_)
  ·intro y0 y1 y2 y3
   unfold l14_BoundsRanges.l3
   repeat' first
   | (with_reducible exact ih0 _ _ _ _ _ _ _)
   | (with_reducible exact ih1 _ _ _ _)
   | (with_reducible exact ih2 _ _ _ _)
   | (with_reducible exact ih3 _ _ _)
   | (with_reducible exact ih4 _ _ _ _)
   | (with_reducible exact ih5 _ _ _ _ _)
   | (with_reducible exact ih6 _ _ _ _ _ _)
   | (with_reducible exact l14_lives.mono _)
   | (with_reducible exact r14_Close.mono _ _ _)
   | (with_reducible exact r14_Made.mono _ _)
   | (with_reducible exact r14_Range.mono _ _ _)
   | (with_reducible exact LeO.refl _)
   | (with_reducible exact LeO.none _)
   | (with_reducible refine LeO.ite ?_ ?_)
   | (with_reducible refine LeO.bind ?_ (fun _ => ?_))
   | exact ih0 _ _ _ _ _ _ _
   | exact ih1 _ _ _ _
   | exact ih2 _ _ _ _
   | exact ih3 _ _ _
   | exact ih4 _ _ _ _
   | exact ih5 _ _ _ _ _
   | exact ih6 _ _ _ _ _ _
   | exact l14_lives.mono _
   | exact r14_Close.mono _ _ _
   | exact r14_Made.mono _ _
   | exact r14_Range.mono _ _ _
   | exact LeO.none _
   | refine LeO.ite ?_ ?_
   | refine LeO.bind ?_ (fun _ => ?_)
  ·intro y0 y1 y2 y3 y4
   unfold l14_BoundsRanges.j6
   repeat' first
   | (with_reducible exact ih0 _ _ _ _ _ _ _)
   | (with_reducible exact ih1 _ _ _ _)
   | (with_reducible exact ih2 _ _ _ _)
   | (with_reducible exact ih3 _ _ _)
   | (with_reducible exact ih4 _ _ _ _)
   | (with_reducible exact ih5 _ _ _ _ _)
   | (with_reducible exact ih6 _ _ _ _ _ _)
   | (with_reducible exact l14_lives.mono _)
   | (with_reducible exact r14_Close.mono _ _ _)
   | (with_reducible exact r14_Made.mono _ _)
   | (with_reducible exact r14_Range.mono _ _ _)
   | (with_reducible exact LeO.refl _)
   | (with_reducible exact LeO.none _)
   | (with_reducible refine LeO.ite ?_ ?_)
   | (with_reducible refine LeO.bind ?_ (fun _ => ?_))
   | exact ih0 _ _ _ _ _ _ _
   | exact ih1 _ _ _ _
   | exact ih2 _ _ _ _
   | exact ih3 _ _ _
   | exact ih4 _ _ _ _
   | exact ih5 _ _ _ _ _
   | exact ih6 _ _ _ _ _ _
   | exact l14_lives.mono _
   | exact r14_Close.mono _ _ _
   | exact r14_Made.mono _ _
   | exact r14_Range.mono _ _ _
   | exact LeO.none _
   | refine LeO.ite ?_ ?_
   | refine LeO.bind ?_ (fun _ => ?_)
  ·intro y0 y1 y2 y3 y4 y5
   unfold l14_BoundsRanges.l1
   repeat' first
   | (with_reducible exact ih0 _ _ _ _ _ _ _)
   | (with_reducible exact ih1 _ _ _ _)
   | (with_reducible exact ih2 _ _ _ _)
   | (with_reducible exact ih3 _ _ _)
   | (with_reducible exact ih4 _ _ _ _)
   | (with_reducible exact ih5 _ _ _ _ _)
   | (with_reducible exact ih6 _ _ _ _ _ _)
   | (with_reducible exact l14_lives.mono _)
   | (with_reducible exact r14_Close.mono _ _ _)
   | (with_reducible exact r14_Made.mono _ _)
   | (with_reducible exact r14_Range.mono _ _ _)
   | (with_reducible exact LeO.refl _)
   | (with_reducible exact LeO.none _)
   | (with_reducible refine LeO.ite ?_ ?_)
   | (with_reducible refine LeO.bind ?_ (fun _ => ?_))
   | exact ih0 _ _ _ _ _ _ _
   | exact ih1 _ _ _ _
   | exact ih2 _ _ _ _
   | exact ih3 _ _ _
   | exact ih4 _ _ _ _
   | exact ih5 _ _ _ _ _
   | exact ih6 _ _ _ _ _ _
   | exact l14_lives.mono _
   | exact r14_Close.mono _ _ _
   | exact r14_Made.mono _ _
   | exact r14_Range.mono _ _ _
   | exact LeO.none _
   | refine LeO.ite ?_ ?_
   | refine LeO.bind ?_ (fun _ => ?_)
theorem l14_BoundsRanges.mono : ∀ a0 a1 a2 a3 a4 k, LeO (l14_BoundsRanges.f k a0 a1 a2 a3 a4) (l14_BoundsRanges.f (k + 1) a0 a1 a2 a3 a4) := by
 intro a0 a1 a2 a3 a4 k
 obtain ⟨ih0, ih1, ih2, ih3, ih4, ih5, ih6⟩ := l14_BoundsRanges.mono_l k
 unfold l14_BoundsRanges.f
 repeat' first
   | (with_reducible exact ih0 _ _ _ _ _ _ _)
   | (with_reducible exact ih1 _ _ _ _)
   | (with_reducible exact ih2 _ _ _ _)
   | (with_reducible exact ih3 _ _ _)
   | (with_reducible exact ih4 _ _ _ _)
   | (with_reducible exact ih5 _ _ _ _ _)
   | (with_reducible exact ih6 _ _ _ _ _ _)
   | (with_reducible exact l14_lives.mono _)
   | (with_reducible exact r14_Close.mono _ _ _)
   | (with_reducible exact r14_Made.mono _ _)
   | (with_reducible exact r14_Range.mono _ _ _)
   | (with_reducible exact LeO.refl _)
   | (with_reducible exact LeO.none _)
   | (with_reducible refine LeO.ite ?_ ?_)
   | (with_reducible refine LeO.bind ?_ (fun _ => ?_))
   | exact ih0 _ _ _ _ _ _ _
   | exact ih1 _ _ _ _
   | exact ih2 _ _ _ _
   | exact ih3 _ _ _
   | exact ih4 _ _ _ _
   | exact ih5 _ _ _ _ _
   | exact ih6 _ _ _ _ _ _
   | exact l14_lives.mono _
   | exact r14_Close.mono _ _ _
   | exact r14_Made.mono _ _
   | exact r14_Range.mono _ _ _
   | exact LeO.none _
   | refine LeO.ite ?_ ?_
   | refine LeO.bind ?_ (fun _ => ?_)
def l14_BoundsRanges.T22 : Bool × List (List Nat × List Nat) := (true, [([], []), ([], []), ([0, 1], [0, 1]), ([2], [2]), ([], []), ([], []), ([4, 5], [4, 5]), ([3, 6], [3, 6]), ([7], [7]), ([8], [8]), ([8], [8]), ([8], [8]), ([9, 7, 0, 1, 2, 3, 4, 5, 6, 7, 8, 9], [9]), ([10, 12, 0, 1, 2, 3, 4, 5, 6, 7, 8, 9, 10, 12], [10]), ([11, 13, 0, 1, 2, 3, 4, 5, 6, 7, 8, 9, 10, 11, 12, 13], [11])])
def l14_BoundsRanges.B22 : List Nat := [0, 0, 3, 7, 0, 0, 48, 127, 255, 511, 511, 511, 1023, 6143, 16383]
theorem l14_BoundsRanges.tab22 : rtab .any (opsOf Try.f4 22) = l14_BoundsRanges.T22 := by kernel_rfl
theorem l14_BoundsRanges.bits22 : waitsOk l14_BoundsRanges.T22.2 l14_BoundsRanges.B22 = true := by kernel_rfl
def l14_BoundsRanges.T23 : Bool × List (List Nat × List Nat) := (true, [([], []), ([], []), ([0, 1], [0, 1]), ([2], [2]), ([], []), ([], []), ([4, 5], [4, 5]), ([3, 6], [3, 6]), ([7], [7]), ([8], [8]), ([8], [8]), ([8], [8]), ([9, 7, 0, 1, 2, 3, 4, 5, 6, 7, 8, 9], [9]), ([10, 12, 0, 1, 2, 3, 4, 5, 6, 7, 8, 9, 10, 12], [10]), ([11, 13, 0, 1, 2, 3, 4, 5, 6, 7, 8, 9, 10, 11, 12, 13], [11])])
def l14_BoundsRanges.B23 : List Nat := [0, 0, 3, 7, 0, 0, 48, 127, 255, 511, 511, 511, 1023, 6143, 16383]
theorem l14_BoundsRanges.tab23 : rtab .any (opsOf Try.f4 23) = l14_BoundsRanges.T23 := by kernel_rfl
theorem l14_BoundsRanges.bits23 : waitsOk l14_BoundsRanges.T23.2 l14_BoundsRanges.B23 = true := by kernel_rfl
/-- The literal's cell. -/
theorem litq (a : Int) (q : Nat) (h : q < 5) : (#[Value.int .i64 a, Value.int .i64 1099511627776, Value.int .i64 (-1099511627776), Value.int .i64 1099511627777, Value.int .i64 0] : Array Value)[q]? = some (.int .i64 (rd [a, 1099511627776, -1099511627776, 1099511627777, 0] (q : Int))) := by
 match q, h with
 | 0, _ => rfl
 | 1, _ => rfl
 | 2, _ => rfl
 | 3, _ => rfl
 | 4, _ => rfl
/-- The two tables behind the copying. -/
theorem bent_same {w W0 wB : World} {vc v : Value} {c x : List (List Int)}
  (hN : Kd.N (Kd.slice 3 (Kd.int .i64)) 22 W0 w.heap.size (fun k => k < wB.heap.size) vc c) (hS : Kd.S (Kd.slice 3 (Kd.int .i64)) 22 W0 wB.heap.size (fun _ => True) v x)
  (hw : Below w.heap.size w wB) (hwB : w.heap.size ≤ wB.heap.size) (hB : Below wB.heap.size wB W0) :
  Kd.N (Kd.slice 3 (Kd.int .i64)) 22 W0 w.heap.size (fun k => some k ≠ v.ownBlock) vc c ∧ Kd.N (Kd.slice 3 (Kd.int .i64)) 22 W0 w.heap.size (fun k => some k ≠ vc.ownBlock) v x ∧ Below w.heap.size w W0 := by
 refine ⟨Kd.N_mono hN (fun k hk he => ?_), Kd.N_lower (Kd.N_mono (Kd.S_N (Kd.S_bound hS)) (fun k hk he => ?_)) hwB, below_step hw hB⟩
 · have := Kd.S_base hS k he.symm
   omega
 · have := hN.1 k he.symm
   have := hk.2.1
   omega
/-- The same where a number of the copied table is turned. -/
theorem bent_store {w W0 W wB : World} {vc : Value} {c x : List (List Int)} {g cap gr cr i j : Nat} {val : Int}
  (hN : Kd.N (Kd.slice 3 (Kd.int .i64)) 22 W0 w.heap.size (fun k => k < wB.heap.size) vc c) (hS : Kd.S (Kd.slice 3 (Kd.int .i64)) 22 W0 wB.heap.size (fun _ => True) (.slice (some ⟨g, 0, none⟩) x.length cap) x)
  (hw : Below w.heap.size w wB) (hwB : w.heap.size ≤ wB.heap.size) (hB : Below wB.heap.size wB W0) (hi : i < x.length) (hcell : W0.cell? ⟨g, i, none⟩ = some (.slice (some ⟨gr, 0, none⟩) (rd_L4 x (i : Int)).length cr)) (hj : j < (rd_L4 x (i : Int)).length) (hb : Below W0.heap.size W0 W) :
  Kd.N (Kd.slice 3 (Kd.int .i64)) 22 (W.setCell ⟨gr, j, none⟩ (.int .i64 val)) w.heap.size (fun k => some k ≠ (Value.slice (some ⟨g, 0, none⟩) x.length cap).ownBlock) vc c ∧
  Kd.N (Kd.slice 3 (Kd.int .i64)) 22 (W.setCell ⟨gr, j, none⟩ (.int .i64 val)) w.heap.size (fun k => some k ≠ vc.ownBlock) (.slice (some ⟨g, 0, none⟩) x.length cap) (x.set i ((rd_L4 x (i : Int)).set j val)) ∧ Below w.heap.size w (W.setCell ⟨gr, j, none⟩ (.int .i64 val)) := by
 have hN1 := Kd.N_below hN hb
 have hS1 := Kd.S_below hS hb
 obtain ⟨oki, ce, hcl, hM, hcc, hok, hbk⟩ := Kd.S_borrow hS1 [] (i : Int) (by omega) (by omega)
 obtain ⟨ve, rfl, ge⟩ := hM
 have hv := hcc 0 _ rfl
 rw [Nat.add_zero, show ((Kd.slice 3 (Kd.int .i64))).sz = 1 from rfl, Nat.mul_one, add_at, Nat.zero_add, Int.toNat_natCast] at hv
 have hc2 := (hb.cell (World.block_lt_of_cell? W0 _ hcell)).trans hcell
 have hv2 := Option.some.inj (hv.symm.trans hc2)
 subst hv2
 have ge2 : Kd.R (Kd.int .i64) 3 W wB.heap.size oki (.slice (some ⟨gr, 0, none⟩) (rd_L4 x (i : Int)).length cr) (rd_L4 x (i : Int)) := ge
 have HP := Kd.R_putg ge2 (j : Int) val
 rw [Int.toNat_natCast] at HP
 have hgr : wB.heap.size ≤ gr := Kd.R_base ge2 gr (by simp [Value.ownBlock])
 have hS2 := hbk HP.2 (fun k_ e_ => by injection e_ with e_; subst e_; exact ge2.1 _ (by simp [Value.ownBlock])) (Kd.M_row HP.1)
 rw [Int.toNat_natCast] at hS2
 have hN2 := Kd.N_far (p := ⟨gr, j, none⟩) hN1 (fun k hk => by show k ≠ gr; omega) (.int .i64 val)
 have hBW : Below wB.heap.size wB (W.setCell ⟨gr, j, none⟩ (.int .i64 val)) := below_set (below_step hB hb) hgr
 exact bent_same hN2 hS2 hw hwB hBW
set_option maxHeartbeats 8000000 in
set_option maxRecDepth 100000 in
theorem l14_BoundsRanges.calls (k : Nat) (A0 : Option Addr) (c0 : Nat) (l0 : List Int) (A1 : Option Addr) (c1 : Nat) (l1 : List Int) (a2 : Int) (a3 : Int) (A4 : Option Addr) (c4 : Nat) (l4 : List (List Int)) (r : Bool) (w : World) (hr0 : Kd.C (Kd.int .i64) w A0 l0.length l0) (hc0 : l0.length ≤ c0) (hr1 : Kd.C (Kd.int .i64) w A1 l1.length l1) (hc1 : l1.length ≤ c1) (hr4 : Kd.C (Kd.slice 3 (Kd.int .i64)) w A4 l4.length l4) (hc4 : l4.length ≤ c4) (h : l14_BoundsRanges.f k l0 l1 a2 a3 l4 = some r) (ht : r = true) :
  Calls Try.prog 4 #[.slice A0 l0.length c0, .slice A1 l1.length c1, .int .i64 a2, .int .i64 a3, .slice A4 l4.length c4] w fun e w' => e = .returned (.bool r) ∧ Below w.heap.size w w' := by
 have HT := Aside0.mk ht
 clear ht
 have HR0 := Aside0.mk hr0
 have HC0 := Aside0.mk hc0
 clear hr0 hc0
 have HR1 := Aside0.mk hr1
 have HC1 := Aside0.mk hc1
 clear hr1 hc1
 have HR4 := Aside0.mk hr4
 have HC4 := Aside0.mk hc4
 clear hr4 hc4
 have HB := Aside0.mk (Below.refl w.heap.size w)
 have H : ((r14_Made.f k l0).bind fun bt488 => ((r14_Close.f k bt488.1 bt488.2).bind fun bt492 => (l14_BoundsRanges.l0 k l1 l4 a2 a3 bt492.1 ([] : List (List Int)) 0))) = some r := h
 clear h
 replace H := Option.bind_eq_some_iff.mp H
 obtain ⟨⟨t488, t489⟩, A60, H⟩ := H
 replace H : ((r14_Close.f k t488 t489).bind fun bt492 => (l14_BoundsRanges.l0 k l1 l4 a2 a3 bt492.1 ([] : List (List Int)) 0)) = some r := H
 have A6 := Aside0.mk A60
 clear A60
 replace H := Option.bind_eq_some_iff.mp H
 obtain ⟨⟨t492, t493⟩, A70, H⟩ := H
 replace H : (l14_BoundsRanges.l0 k l1 l4 a2 a3 t492 ([] : List (List Int)) 0) = some r := H
 have A7 := Aside0.mk A70
 clear A70
 have H' := Aside0.mk H
 clear H
 go_enter Try.func4, Try.ntmps4
 go_wp2_with (first | ((with_reducible refine gate_callee (f := 9) rfl ?_); refine goesL_ (some 30) rfl rfl Try.func9 (by kernel_rfl) rfl #[.slice A0 l0.length c0] rfl (by (try simp only [List.map_toArray, List.map_cons, List.map_nil]); first | done | rfl | (simp only [List.length_drop, List.length_take]; rfl)) ?_; (with_reducible refine (r14_Made.calls k _ _ l0 t488 t489 _ ?side1 ?side2 A6.out).mono ?_); (case side1 => repeat (first | exact HR0.out | (with_reducible refine Kd.C_alloc ?_ _) | (with_reducible refine Kd.C_drewN ?_ _) | (with_reducible refine Kd.C_drew ?_))); (case side2 => exact HC0.out); rintro e w8 ⟨v490, rfl, ho0, hb⟩; refine ⟨_, rfl, ?_⟩; have n0_ := Aside0.mk (Kd.R_lower ho0 (below_size (by repeat (first | (with_reducible first | exact HB.out | apply below_alloc | apply pw_below_drewN | apply below_drew1) | exact HB.out)))); have n1_ := Aside0.mk (below_step (by repeat (first | (with_reducible first | exact HB.out | apply below_alloc | apply pw_below_drewN | apply below_drew1) | exact HB.out)) hb); clear HB; have HO491 := n0_; have HB := n1_; clear n0_ n1_; (try clear hb); (try clear hb2); (try clear hk); (try clear hi); (try clear ho0); obtain ⟨Ao9, co9, eo9⟩ := Kd.R_slice HO491.out; subst eo9) | ((with_reducible refine gate_callee (f := 14) rfl ?_); refine goesL_ (some 36) rfl rfl Try.func14 (by kernel_rfl) rfl #[.int .i64 t488, .slice Ao9 t489.length co9] rfl (by (try simp only [List.map_toArray, List.map_cons, List.map_nil]); first | done | rfl | (simp only [List.length_drop, List.length_take]; rfl)) ?_; (with_reducible refine (r14_Close.calls k t488 _ _ t489 t492 t493 _ ?side1 ?side2 A7.out).mono ?_); (case side1 => repeat (first | exact (Kd.R_reads' HO491.out).2.2 | (with_reducible refine Kd.C_alloc ?_ _) | (with_reducible refine Kd.C_drewN ?_ _) | (with_reducible refine Kd.C_drew ?_))); (case side2 => exact (Kd.R_reads' HO491.out).2.1); rintro e w10 ⟨v494, rfl, ho0, hb⟩; refine ⟨_, rfl, ?_⟩; have n0_ := Aside0.mk (Kd.R_below (by (with_reducible repeat (first | apply Kd.R_alloc | apply Kd.R_drewN | apply Kd.R_drew)); exact HO491.out) hb); have n1_ := Aside0.mk (Kd.N_lower (Kd.N_mono (ok' := fun k_ => some k_ ≠ (.slice Ao9 t489.length co9 : Value).ownBlock) (Kd.S_N (Kd.S_bound ho0)) (fun k_ hk_ => (Kd.fresh' (Kd.R_lt (by (with_reducible repeat (first | apply Kd.R_alloc | apply Kd.R_drewN | apply Kd.R_drew)); exact HO491.out)) k_ hk_.2.1))) (below_size (by repeat (first | (with_reducible first | exact HB.out | apply below_alloc | apply pw_below_drewN | apply below_drew1) | exact HB.out)))); have n2_ := Aside0.mk (below_step (by repeat (first | (with_reducible first | exact HB.out | apply below_alloc | apply pw_below_drewN | apply below_drew1) | exact HB.out)) hb); clear HO491; clear HB; have HO491 := n0_; have HO495 := n1_; have HB := n2_; clear n0_ n1_ n2_; (try clear hb); (try clear hb2); (try clear hk); (try clear hi); (try clear ho0)))
 have HCB := Aside0.mk (Kd.N_mono (Kd.N_bound HO495.out) (fun _ hk => hk.2))
 have HBw := HB
 have HwB := Aside0.mk (below_size HBw.out)
 clear HB HO495 HO491
 go_loopg [15, 16] k (fun kq v15 v16 w' => ∃ (x15_1 : List (List Int)) (x16_1 : Int), v16 = .int .i64 x16_1 ∧ Aside0 (l14_BoundsRanges.l0 kq l1 l4 a2 a3 t492 x15_1 x16_1 = some r) ∧ Aside0 (kq ≤ k) ∧ Aside0 (Kd.N (Kd.slice 3 (Kd.int .i64)) 22 w' w.heap.size (fun k_ => k_ < w10.heap.size) v494 t492) ∧ Aside0 (Kd.S (Kd.slice 3 (Kd.int .i64)) 22 w' w10.heap.size (fun _ => True) v15 x15_1) ∧ Aside0 (Below w10.heap.size w10 w'))
 case atStart => exact ⟨(([] : List (List Int))), (0), rfl, H', ⟨Nat.le_refl _⟩, ⟨HCB.out⟩, ⟨Kd.S_nil _ _ _ _ _⟩, ⟨Below.refl _ _⟩⟩
 case round =>
  clear H' HCB
  obtain ⟨x15_1, x16_1, rfl, HA, HK1, HO_13, HO_15, HB⟩ := hrel
  cases gk with
  | zero => exact absurd HA.out (by simp [l14_BoundsRanges.l0])
  | succ k1 =>
   have H := HA.out
   clear HA
   simp only [l14_BoundsRanges.l0] at H
   by_cases c11 : x16_1 < (t492.length : Int)
   · rw [if_pos c11] at H
     have c11b0 : decide (x16_1 < (t492.length : Int)) = true := decide_eq_true c11
     rw [Option.bind_some] at H
     by_cases c12 : 0 ≤ x16_1
     · rw [if_pos c12] at H
       by_cases c13 : ([] : List Int).length + (rd_L4 t492 x16_1).length < 17592186044416
       · rw [if_pos c13] at H
         have LMc13 := Aside0.mk c13
         by_cases c14 : x15_1.length < 5864062014805
         · rw [if_pos c14] at H
           have LMc14 := Aside0.mk c14
           have H' := Aside0.mk H
           clear H c13 c14
           obtain ⟨Ao15, co15, eo15⟩ := Kd.N_slice HO_13.out
           subst eo15
           obtain ⟨wq, hwq⟩ : ∃ x, x = wr := ⟨_, rfl⟩
           obtain ⟨vb, hvb⟩ : ∃ x, x = u15 := ⟨_, rfl⟩
           rw [← hwq] at HO_13 HO_15 HB ⊢
           rw [← hvb] at HO_15 ⊢
           clear hwq hvb
           go_wp2_with (first
             | ((with_reducible refine gate_dst (N := 46) rfl ?_); refine Kd.R_lit (Kd.int .i64) _ 3 ?hg (N := 46) ?hd (xs := ([] : List Int)) (inner := []) (ok := fun _ => True) (okp := fun _ => True) ?hr ?hp (fun _ hk => hk) trivial (Below.refl _ _) (Nat.le_refl _) (by simp) ?_; (case hd => rfl); (case hg => rfl); (case hr => first | (go_simp; done) | (go_simp; rfl)); (case hp => exact (Reps.none _ _)); intro v497 w16 ho17 hb hg_ hnew_; clear hg_ hnew_; have HL := Aside0.mk ho17; have HM := Aside0.mk hb; have HN16 := Aside0.mk (Kd.N_below HO_13.out hb); clear ho17 hb; obtain ⟨ad499, A499_0, c499_0, e499, hx499_0, hl499_0, hi499_0⟩ := at_L4 (Kd.N_reads' HN16.out).2.2 x16_1 c12 c11; cases e499; have HR499_0 := Aside0.mk hi499_0; have HC499_0 := Aside0.mk hl499_0; clear hi499_0 hl499_0; have p499 := eq_true c12; have q499 := eq_true c11)
             | ((with_reducible refine gate_builtin (b := .append) (xs := #[.tmp 46, .tmp 50]) rfl ?_); at_builtin; refine Kd.R_append_rows (Kd.int .i64) (w0 := wq) wq.heap.size rfl (.tmp 46) (.tmp 50) 22 3 (.int .i64 0) 8 rfl Try.underlying22 info3 rfl (by decide) (by omega) v497 ([] : List Int) (rd_L4 t492 x16_1) _ _ _ (fun _ => True) (fun _ => False) rfl rfl ?aO ?aR (fun _ _ h => h) (fun _ h => h.elim) (fun _ _ => trivial) ?aB ?aS ?aL ?_; (case aR => first | exact HR499_0.out | exact gC HR499_0.out); (case aB => first | exact HM.out | exact bl HM.out); (case aO => first | exact HL.out | exact gR HL.out); (case aS => first | exact below_size HM.out | exact below_size (bl HM.out)); (case aL => have := LMc13.out; omega); intro v501 w18 ho hb hg hat; have HY := Aside0.mk ho; have HM18 := Aside0.mk hb; clear ho hb hg hat HL HM HN16; obtain ⟨Ao20, co20, eo20⟩ := Kd.R_slice HY.out; subst eo20)
             | ((with_reducible refine gate_builtin (b := .append) (xs := #[.tmp 45, .tmp 52]) rfl ?_); at_builtin; refine Kd.S_append (Kd.slice 3 (Kd.int .i64)) (w0 := w10) w10.heap.size rfl (.tmp 45) (.tmp 52) 29 22 (.slice none 0 0) 24 rfl Try.underlying29 info22 rfl (by decide) (by omega) vb x15_1 (([] : List Int) ++ (rd_L4 t492 x16_1)) [.slice Ao20 (([] : List Int) ++ (rd_L4 t492 x16_1)).length co20] (fun _ => True) (fun k_ => some k_ = (Value.slice Ao20 (([] : List Int) ++ (rd_L4 t492 x16_1)).length co20).ownBlock) rfl rfl ?aP ?aQ (fun _ _ => trivial) ?aO ?aB ?aS ?aL ?_; (case aP => exact Kd.M_row (Kd.R_lower (Kd.R_tight rfl HY.out) (below_size HB.out))); (case aQ => exact fun k_ hk => ⟨trivial, fun he => by have h1 := Kd.R_base HY.out k_ hk.symm; have h2 := Kd.S_lt HO_15.out k_ he.symm; omega⟩); (case aO => exact Kd.S_mono (Kd.S_old HO_15.out HM18.out) (fun k_ hk => ⟨trivial, fun hp => by have h1 := Kd.R_base HY.out k_ hp.symm; have h2 := hk.2; omega⟩)); (case aB => exact below_step HB.out HM18.out); (case aS => exact below_size (below_step HB.out HM18.out)); (case aL => have := LMc14.out; omega); intro v504 w19 ho hb hg hat; have HN19 := Aside0.mk (Kd.N_grown (Kd.N_below HO_13.out HM18.out) hg (fun k_ hk he => by have h1 := Kd.S_base HO_15.out k_ he.symm; omega)); have HS19 := Aside0.mk ho; have HB19 := Aside0.mk hb; clear ho hb hg hat))
           go_roundg k1
           case measure => have := HK1.out; omega
           case rel => exact ⟨x15_1 ++ [([] : List Int) ++ (rd_L4 t492 x16_1)], (wrap64 (x16_1 + 1)), (by first | rfl | (simp; done) | (simp [*]; done)), H', ⟨by have := HK1.out; omega⟩, HN19, HS19, HB19⟩
         · rw [if_neg c14] at H
           exact absurd H (by simp)
       · rw [if_neg c13] at H
         exact absurd H (by simp)
     · rw [if_neg c12] at H
       exact absurd H (by simp)
   · rw [if_neg c11] at H
     have c11b0 : decide (x16_1 < (t492.length : Int)) = false := decide_eq_false c11
     clear c11
     have HC21 := Aside0.mk H
     clear H
     obtain ⟨Ao22, co22, eo22⟩ := Kd.N_slice HO_13.out
     subst eo22
     obtain ⟨Ao23, co23, eo23⟩ := Kd.S_slice HO_15.out
     subst eo23
     obtain ⟨nb, hnb⟩ : ∃ nb, nb = x15_1.length := ⟨_, rfl⟩
     have HNB := Aside0.mk hnb
     rw [← hnb]
     clear hnb
     go_upto_if 56 with (fail)
     go_cut [] (fun wc => ∃ (kq : Nat) (y15_1 : List (List Int)), y15_1.length = nb ∧ Aside0 (l14_BoundsRanges.j1 kq l1 l4 t492 y15_1 = some r) ∧ Aside0 (kq ≤ k1) ∧ Aside0 (Kd.N (Kd.slice 3 (Kd.int .i64)) 22 wc w.heap.size (fun k_ => some k_ ≠ ((.slice Ao23 nb co23) : Value).ownBlock) (.slice Ao22 t492.length co22) t492) ∧ Aside0 (Kd.N (Kd.slice 3 (Kd.int .i64)) 22 wc w.heap.size (fun k_ => some k_ ≠ ((.slice Ao22 t492.length co22) : Value).ownBlock) (.slice Ao23 nb co23) y15_1) ∧ Aside0 (Below w.heap.size w wc))
     case first =>
      have H := HC21.out
      clear HC21
      have hnb := HNB.out
      rw [← hnb] at H
      by_cases c24 : (nb : Int) > 0
      · rw [if_pos c24] at H
        have c24b0 : decide (0 < (nb : Int)) = true := decide_eq_true c24
        have c24b1 : decide (0 < nb) = true := decide_eq_true (by omega)
        (first | rw [c24b1] | rw [c24b0] | skip)
        replace H := Option.bind_eq_some_iff.mp H
        obtain ⟨ti, hti, H⟩ := H
        replace H := Option.bind_eq_some_iff.mp H
        obtain ⟨tj, htj, H⟩ := H
        replace H := Option.bind_eq_some_iff.mp H
        obtain ⟨tq, htq, H⟩ := H
        by_cases d1 : 0 ≤ ti
        · rw [if_pos d1] at H
          by_cases d2 : ti < (nb : Int)
          · rw [if_pos d2] at H
            by_cases d3 : 0 ≤ tj
            · rw [if_pos d3] at H
              by_cases d4 : tj < ((rd_L4 x15_1 ti).length : Int)
              · rw [if_pos d4] at H
                by_cases d5 : 0 ≤ tq
                · rw [if_pos d5] at H
                  by_cases d6 : tq < 5
                  · rw [if_pos d6] at H
                    obtain ⟨ni, rfl⟩ := Int.eq_ofNat_of_zero_le d1
                    obtain ⟨nj, rfl⟩ := Int.eq_ofNat_of_zero_le d3
                    obtain ⟨nq, rfl⟩ := Int.eq_ofNat_of_zero_le d5
                    simp only [Int.toNat_natCast] at H
                    have H' := Aside0.mk H
                    clear H
                    obtain ⟨g14, cap14, e14, gb14, gl14, -⟩ := Kd.S_form HO_15.out (by omega)
                    (first | cases e14 | (injection e14 with ea_ en_ ec_; (first | subst ea_ | (injection ea_ with ea_; subst ea_)); subst ec_; clear en_))
                    obtain ⟨oki, ce, hcl, hM, hcc, hok, -⟩ := Kd.S_borrow HO_15.out [] (ni : Int) d1 (by omega)
                    obtain ⟨ve, rfl, ge⟩ := hM
                    have hrow := hcc 0 _ rfl
                    have ge2 : Kd.R (Kd.int .i64) 3 _ _ _ ve (rd_L4 x15_1 (ni : Int)) := ge
                    obtain ⟨gr, cr, er, gbr, glr, -⟩ := Kd.R_form ge2 (by omega)
                    subst er
                    obtain ⟨hold, hfro⟩ := Kd.R_celln 0 ge2 (nj : Int) d3 d4
                    rw [Nat.add_zero, show ((Kd.slice 3 (Kd.int .i64))).sz = 1 from rfl, Nat.mul_one, add_at, Nat.zero_add] at hrow
                    simp only [Int.toNat_natCast] at hrow hold hfro
                    have hold2 : wr.cell? ⟨gr, nj, none⟩ = some (.int .i64 (rd (rd_L4 x15_1 (ni : Int)) (nj : Int))) := hold
                    clear hold
                    have hqv := litq a3 nq (by omega)
                    have HFIN := Aside0.mk (fun (W : World) (hb : Below wr.heap.size wr W) => bent_store (W := W) (i := ni) (j := nj) (val := rd [a3, 1099511627776, -1099511627776, 1099511627777, 0] (nq : Int)) HO_13.out HO_15.out HBw.out HwB.out HB.out (by omega) hrow (by omega) hb)
                    have HTI := Aside0.mk hti
                    have HTJ := Aside0.mk htj
                    have HTQ := Aside0.mk htq
                    clear hti htj htq hcl hcc ge2 gb14 gbr hnb
                    have hfa : ∀ (n : Nat) (o : Obj), ((wr.drewN n).alloc o).frozen? ⟨gr, nj, none⟩ = false := fun n o => ((below_alloc (pw_below_drewN (Below.refl _ _) n) o).frozen glr).trans hfro
                    have hl1 : ∀ n : Nat, ((wr.drewN n).alloc (Obj.cells #[Value.int .i64 a3, Value.int .i64 1099511627776, Value.int .i64 (-1099511627776), Value.int .i64 1099511627777, Value.int .i64 0] 3)).cell? ⟨wr.heap.size, nq, none⟩ = some (.int .i64 (rd [a3, 1099511627776, -1099511627776, 1099511627777, 0] (nq : Int))) := fun n => (blk_cell (t := 3) (blk_new (wr.drewN n) _) nq).trans hqv
                    have hl2 : (wr.alloc (Obj.cells #[Value.int .i64 a3, Value.int .i64 1099511627776, Value.int .i64 (-1099511627776), Value.int .i64 1099511627777, Value.int .i64 0] 3)).cell? ⟨wr.heap.size, nq, none⟩ = some (.int .i64 (rd [a3, 1099511627776, -1099511627776, 1099511627777, 0] (nq : Int))) := (blk_cell (t := 3) (blk_new wr _) nq).trans hqv
                    have hfb : ∀ o : Obj, (wr.alloc o).frozen? ⟨gr, nj, none⟩ = false := fun o => ((below_alloc (Below.refl _ _) o).frozen glr).trans hfro
                    have hca : ∀ (n : Nat) (o : Obj), ((wr.drewN n).alloc o).cell? ⟨gr, nj, none⟩ = some (.int .i64 (rd (rd_L4 x15_1 (ni : Int)) (nj : Int))) := fun n o => ((below_alloc (pw_below_drewN (Below.refl _ _) n) o).cell glr).trans hold2
                    have hcb : ∀ o : Obj, (wr.alloc o).cell? ⟨gr, nj, none⟩ = some (.int .i64 (rd (rd_L4 x15_1 (ni : Int)) (nj : Int))) := fun o => ((below_alloc (Below.refl _ _) o).cell glr).trans hold2
                    have hra : ∀ (n : Nat) (o : Obj), ((wr.drewN n).alloc o).cell? ⟨g14, ni, none⟩ = some (.slice (some ⟨gr, 0, none⟩) (rd_L4 x15_1 (ni : Int)).length cr) := fun n o => ((below_alloc (pw_below_drewN (Below.refl _ _) n) o).cell gl14).trans hrow
                    have hrb : ∀ o : Obj, (wr.alloc o).cell? ⟨g14, ni, none⟩ = some (.slice (some ⟨gr, 0, none⟩) (rd_L4 x15_1 (ni : Int)).length cr) := fun o => ((below_alloc (Below.refl _ _) o).cell gl14).trans hrow
                    have hne : ¬ gr = g14 := fun he => (hok gr (ge.1 gr (by simp [Value.ownBlock]))).2 (by rw [he]; simp [Value.ownBlock])
                    have hne2 : ¬ g14 = gr := fun he => hne he.symm
                    clear hqv hok ge
                    have hwq : IntKind.i64.wrap (Int.tdiv a2 11) = wrap64 (Int.tdiv a2 11) := i64_w _
                    go_wp2
                    go_region_with
                      (first | (go_at_call 11; (with_reducible refine (r01_Around.calls a2 (nb : Int) (ni : Int) _ HTI.out).mono ?_); rintro e w1 ⟨rfl, ⟨nd, rfl⟩⟩) | (go_at_call 11; (with_reducible refine (r01_Around.calls (wrap64 (Int.tdiv a2 11)) (nb : Int) (nj : Int) _ HTJ.out).mono ?_); rintro e w1 ⟨rfl, ⟨nd, rfl⟩⟩) | (go_at_call 11; (with_reducible refine (r01_Around.calls a3 5 (nq : Int) _ HTQ.out).mono ?_); rintro e w1 ⟨rfl, ⟨nd, rfl⟩⟩))
                    all_goals
                      clear hl1 hl2 hca hcb hra hrb hfa hfb hne hne2
                      go_wp2
                      go_meet
                      case rel => exact ⟨_, _, (by rw [List.length_set]; exact HNB.out.symm), H', ⟨by have := HK1.out; first | omega | exact Nat.le_refl _⟩, ⟨by rw [HNB.out]; exact (HFIN.out _ (by repeat (first | exact Below.refl _ _ | apply below_alloc | apply pw_below_drewN | apply below_drew1))).1⟩, ⟨by rw [HNB.out]; exact (HFIN.out _ (by repeat (first | exact Below.refl _ _ | apply below_alloc | apply pw_below_drewN | apply below_drew1))).2.1⟩, ⟨(HFIN.out _ (by repeat (first | exact Below.refl _ _ | apply below_alloc | apply pw_below_drewN | apply below_drew1))).2.2⟩⟩
                  · rw [if_neg d6] at H
                    exact absurd H (by simp)
                · rw [if_neg d5] at H
                  exact absurd H (by simp)
              · rw [if_neg d4] at H
                exact absurd H (by simp)
            · rw [if_neg d3] at H
              exact absurd H (by simp)
          · rw [if_neg d2] at H
            exact absurd H (by simp)
        · rw [if_neg d1] at H
          exact absurd H (by simp)
      · rw [if_neg c24] at H
        have c24b0 : decide (0 < (nb : Int)) = false := decide_eq_false c24
        have c24b1 : decide (0 < nb) = false := decide_eq_false (by omega)
        clear c24
        (first | rw [c24b1] | rw [c24b0] | skip)
        have H' := Aside0.mk H
        clear H
        go_wp2
        go_meet
        case rel => exact ⟨_, x15_1, HNB.out.symm, H', ⟨by have := HK1.out; first | omega | exact Nat.le_refl _⟩, ⟨by rw [HNB.out]; exact (bent_same HO_13.out HO_15.out HBw.out HwB.out HB.out).1⟩, ⟨by rw [HNB.out]; exact (bent_same HO_13.out HO_15.out HBw.out HwB.out HB.out).2.1⟩, ⟨(bent_same HO_13.out HO_15.out HBw.out HwB.out HB.out).2.2⟩⟩
     case rest =>
      clear HC21
      try clear c1
      try clear c2
      try clear p2
      try clear c4
      try clear p4
      try clear q4
      try clear hx4
      try clear p6
      try clear c9
      try clear c11
      try clear c11b0
      try clear c12
      try clear c12b0
      try clear c13
      try clear c14
      try clear c24
      try clear c24b0
      try clear c24b1
      try clear hx499_0
      try clear p2
      try clear p499
      try clear q499
      clear HO_15 HNB; obtain ⟨kq, x15_1, hlen, HA, HJ20, HO_13, HO_15, HB⟩ := hcut; subst hlen
      cases kq with
      | zero => exact absurd HA.out (by simp [l14_BoundsRanges.j1])
      | succ kj20 =>
       have H := HA.out
       clear HA
       simp only [l14_BoundsRanges.j1] at H
       have HC25 := Aside0.mk H
       clear H
       go_upto_block 2 with (fail)
       go_cut [17] (fun v17 wc => ∃ (kq : Nat) (x17_24 : List (List Int)), Aside0 (l14_BoundsRanges.j3 kq l1 t492 x15_1 x17_24 = some r) ∧ Aside0 (kq ≤ kj20) ∧ Aside0 (Kd.N (Kd.slice 3 (Kd.int .i64)) 22 wc w.heap.size (fun k_ => some k_ ≠ ((.slice Ao23 x15_1.length co23) : Value).ownBlock ∧ some k_ ≠ (v17 : Value).ownBlock) (.slice Ao22 t492.length co22) t492) ∧ Aside0 (Kd.N (Kd.slice 3 (Kd.int .i64)) 22 wc w.heap.size (fun k_ => some k_ ≠ ((.slice Ao22 t492.length co22) : Value).ownBlock ∧ some k_ ≠ (v17 : Value).ownBlock) (.slice Ao23 x15_1.length co23) x15_1) ∧ Aside0 (Kd.N (Kd.slice 3 (Kd.int .i64)) 22 wc w.heap.size (fun k_ => some k_ ≠ ((.slice Ao22 t492.length co22) : Value).ownBlock ∧ some k_ ≠ ((.slice Ao23 x15_1.length co23) : Value).ownBlock) v17 x17_24) ∧ Aside0 (Below w.heap.size w wc))
       case first =>
        have H := HC25.out
        clear HC25
        have H' := Aside0.mk H
        clear H
        go_wp2
        go_loopg [17, 18] kj20 (fun kq v17 v18 w' => ∃ (x17_3 : List (List Int)) (x18_3 : Int), v18 = .int .i64 x18_3 ∧ Aside0 (l14_BoundsRanges.l1 kq l1 l4 t492 x15_1 x17_3 x18_3 = some r) ∧ Aside0 (kq ≤ kj20) ∧ Aside0 (Kd.N (Kd.slice 3 (Kd.int .i64)) 22 w' w.heap.size (fun k_ => some k_ ≠ ((.slice Ao23 x15_1.length co23) : Value).ownBlock ∧ some k_ ≠ (v17 : Value).ownBlock) (.slice Ao22 t492.length co22) t492) ∧ Aside0 (Kd.N (Kd.slice 3 (Kd.int .i64)) 22 w' w.heap.size (fun k_ => some k_ ≠ ((.slice Ao22 t492.length co22) : Value).ownBlock ∧ some k_ ≠ (v17 : Value).ownBlock) (.slice Ao23 x15_1.length co23) x15_1) ∧ Aside0 (Kd.N (Kd.slice 3 (Kd.int .i64)) 22 w' w.heap.size (fun k_ => some k_ ≠ ((.slice Ao22 t492.length co22) : Value).ownBlock ∧ some k_ ≠ ((.slice Ao23 x15_1.length co23) : Value).ownBlock) v17 x17_3) ∧ Aside0 (Below w.heap.size w w'))
        case atStart => exact ⟨(([] : List (List Int))), (0), (by first | rfl | (simp; done) | (simp [*]; done)), H', ⟨Nat.le_refl _⟩, ⟨by (with_reducible repeat (first | apply Kd.N_alloc | apply Kd.N_drewN | apply Kd.N_drew)); exact Kd.N_mono HO_13.out (fun _ hk => ⟨hk, (by simp [Value.ownBlock])⟩)⟩, ⟨by (with_reducible repeat (first | apply Kd.N_alloc | apply Kd.N_drewN | apply Kd.N_drew)); exact Kd.N_mono HO_15.out (fun _ hk => ⟨hk, (by simp [Value.ownBlock])⟩)⟩, ⟨by first | exact Kd.S_nil _ _ _ _ _ | exact Kd.N_nil _ _ _ _ _ | exact Kd.V_nil _ _ _ _ _ | exact Kd.Q_nil _ _ _ _ _ | exact Kd.R_nil _ _ _ _ _⟩, ⟨by repeat (first | (with_reducible first | exact HB.out | apply below_alloc | apply pw_below_drewN | apply below_drew1) | exact HB.out)⟩⟩
        case round =>
         clear H'
         try clear c1
         try clear c2
         try clear p2
         try clear c4
         try clear p4
         try clear q4
         try clear hx4
         try clear p6
         try clear c9
         try clear c11
         try clear c11b0
         try clear c12
         try clear c12b0
         try clear c13
         try clear c14
         try clear c24
         try clear c24b0
         try clear c24b1
         try clear hx499_0
         try clear p2
         try clear p4
         try clear p499
         try clear p6
         try clear q4
         try clear q499
         obtain ⟨x17_3, x18_3, rfl, HA, HK3, HO_13, HO_15, HO_17, HB⟩ := hrel
         cases gk with
         | zero => exact absurd HA.out (by simp [l14_BoundsRanges.l1])
         | succ k3 =>
          have H := HA.out
          clear HA
          simp only [l14_BoundsRanges.l1] at H
          by_cases c26 : x18_3 < (l4.length : Int)
          ·rw [if_pos c26] at H
           have c26b0 : decide (x18_3 < (l4.length : Int)) = true := decide_eq_true c26
           clear c26
           (first | rw [c26b0] | (simp only [i64_w, i32_w]; rw [c26b0]) | skip)
           by_cases c27 : x18_3 < 12
           ·rw [if_pos c27] at H
            have c27b0 : decide (x18_3 < 12) = true := decide_eq_true c27
            clear c27
            by_cases c28 : 0 ≤ x18_3
            ·rw [if_pos c28] at H
             have c28b0 : decide (0 ≤ x18_3) = true := decide_eq_true c28
             clear c28
             replace H := Option.bind_eq_some_iff.mp H
             obtain ⟨t507, A290, H⟩ := H
             replace H : (if x17_3.length < 5864062014805 then (l14_BoundsRanges.l1 k3 l1 l4 t492 x15_1 (x17_3 ++ [t507]) (wrap64 (x18_3 + 1))) else (none)) = some r := H
             have A29 := Aside0.mk A290
             clear A290
             by_cases c30 : x17_3.length < 5864062014805
             ·rw [if_pos c30] at H
              have LMc30 := Aside0.mk c30
              clear c30
              obtain ⟨y510, hy510⟩ : ∃ y_ : List (List Int), y_ = (x17_3 ++ [t507]) := ⟨_, rfl⟩
              replace H : (l14_BoundsRanges.l1 k3 l1 l4 t492 x15_1 y510 (wrap64 (x18_3 + 1))) = some r := by first | (rw [hy510]; with_reducible exact H) | (have H2_ := (Option.bind_some _ _).symm.trans H; rw [hy510]; with_reducible exact H2_) | (have H2_ := (Option.bind_some _ _).symm.trans H; with_reducible exact H2_) | with_reducible exact H | (rw [hy510]; exact H) | exact H
              have Ny510 := Aside0.mk hy510
              clear hy510
              have H' := Aside0.mk H
              clear H
              have p506 : 0 ≤ (x18_3 : Int) := of_decide_eq_true (by first | (with_reducible assumption) | assumption)
              have q506 : x18_3 < (l4.length : Int) := of_decide_eq_true (by first | (with_reducible assumption) | assumption)
              obtain ⟨ad506, A506_0, c506_0, e506, hx506_0, hl506_0, hi506_0⟩ := at_L4 HR4.out x18_3 p506 q506
              cases e506
              replace hx506_0 := (HB.out.cell (World.block_lt_of_cell? w _ hx506_0)).trans hx506_0
              have HR506_0 := Aside0.mk hi506_0
              have HC506_0 := Aside0.mk hl506_0
              clear hi506_0 hl506_0
              replace p506 := eq_true p506
              replace q506 := eq_true q506
              go_wp2_with (first | ((with_reducible refine gate_callee (f := 20) rfl ?_); refine goesL_ (some 91) rfl rfl Try.func20 (by kernel_rfl) rfl #[.slice A506_0 (rd_L4 l4 x18_3).length c506_0, .int .i64 12] rfl (by (try simp only [List.map_toArray, List.map_cons, List.map_nil]); first | done | rfl | (simp only [List.length_drop, List.length_take]; rfl)) ?_; (with_reducible refine (r01_Take.calls _ _ (rd_L4 l4 x18_3) 12 t507 _ ?side1 ?side2 A29.out).mono ?_); (case side1 => repeat (first | exact (Kd.C_below HR506_0.out HB.out) | (with_reducible refine Kd.C_alloc ?_ _) | (with_reducible refine Kd.C_drewN ?_ _) | (with_reducible refine Kd.C_drew ?_))); (case side2 => exact HC506_0.out); rintro e w31 ⟨v508, rfl, ho0, hb⟩; refine ⟨_, rfl, ?_⟩; have n0_ := Aside0.mk (Kd.N_elder' (by (with_reducible repeat (first | apply Kd.N_alloc | apply Kd.N_drewN | apply Kd.N_drew)); exact HO_13.out) (Kd.R_base ho0) hb); have n1_ := Aside0.mk (Kd.N_elder' (by (with_reducible repeat (first | apply Kd.N_alloc | apply Kd.N_drewN | apply Kd.N_drew)); exact HO_15.out) (Kd.R_base ho0) hb); have n2_ := Aside0.mk (Kd.N_elder' (by (with_reducible repeat (first | apply Kd.N_alloc | apply Kd.N_drewN | apply Kd.N_drew)); exact HO_17.out) (Kd.R_base ho0) hb); have n3_ := Aside0.mk (Kd.R_lower ho0 (below_size (by repeat (first | (with_reducible first | exact HB.out | apply below_alloc | apply pw_below_drewN | apply below_drew1) | exact HB.out)))); have n4_ := Aside0.mk (below_step (by repeat (first | (with_reducible first | exact HB.out | apply below_alloc | apply pw_below_drewN | apply below_drew1) | exact HB.out)) hb); clear HO_13; clear HO_15; clear HO_17; clear HB; have HO_13 := n0_; have HO_15 := n1_; have HO_17 := n2_; have HO509 := n3_; have HB := n4_; clear n0_ n1_ n2_ n3_ n4_; (try clear hb); (try clear hb2); (try clear hk); (try clear hi); (try clear ho0); obtain ⟨Ao33, co33, eo33⟩ := Kd.R_slice HO509.out; subst eo33) | ((with_reducible refine gate_builtin (b := .append) (xs := #[.tmp 86, .tmp 92]) rfl ?_); at_builtin; refine Kd.N_append (Kd.slice 3 (Kd.int .i64)) (w0 := w) w.heap.size rfl (.tmp 86) (.tmp 92) 29 22 (.slice none 0 0) 24 rfl Try.underlying29 info22 rfl (by decide) (by omega) u17 x17_3 t507 [.slice Ao33 t507.length co33] (fun k_ => some k_ ≠ (.slice Ao22 t492.length co22 : Value).ownBlock ∧ some k_ ≠ (.slice Ao23 x15_1.length co23 : Value).ownBlock) (fun k_ => ((fun k_ => some k_ ≠ (.slice Ao22 t492.length co22 : Value).ownBlock ∧ some k_ ≠ (.slice Ao23 x15_1.length co23 : Value).ownBlock)) k_ ∧ some k_ ≠ (u17 : Value).ownBlock) rfl rfl ?aP (fun _ hk => hk) ?aF ?aO ?aB ?aS ?aL ?_; (case aP => exact (Kd.FK_slice_mk (Kd.R_reads' (Kd.R_mono (ok' := (fun k_ => ((fun k_ => some k_ ≠ (.slice Ao22 t492.length co22 : Value).ownBlock ∧ some k_ ≠ (.slice Ao23 x15_1.length co23 : Value).ownBlock)) k_ ∧ some k_ ≠ (u17 : Value).ownBlock)) (Kd.R_apart' (Kd.R_apart' (Kd.R_apart' (HO509.out) (Kd.N_typed HO_13.out) (by decide)) (Kd.N_typed HO_15.out) (by decide)) (Kd.N_typed HO_17.out) (by decide)) (fun k_ hk => ⟨⟨hk.1.1.2, hk.1.2⟩, hk.2⟩))).2.1 (Kd.R_F (Kd.R_mono (ok' := (fun k_ => ((fun k_ => some k_ ≠ (.slice Ao22 t492.length co22 : Value).ownBlock ∧ some k_ ≠ (.slice Ao23 x15_1.length co23 : Value).ownBlock)) k_ ∧ some k_ ≠ (u17 : Value).ownBlock)) (Kd.R_apart' (Kd.R_apart' (Kd.R_apart' (HO509.out) (Kd.N_typed HO_13.out) (by decide)) (Kd.N_typed HO_15.out) (by decide)) (Kd.N_typed HO_17.out) (by decide)) (fun k_ hk => ⟨⟨hk.1.1.2, hk.1.2⟩, hk.2⟩))))); (case aB => exact (by repeat (first | (with_reducible first | exact HB.out | apply below_alloc | apply pw_below_drewN | apply below_drew1) | exact HB.out))); (case aF => exact (fun k_ hk => ⟨Kd.fresh' (Kd.N_lt (by (with_reducible repeat (first | apply Kd.N_alloc | apply Kd.N_drewN | apply Kd.N_drew)); exact HO_13.out)) k_ hk, Kd.fresh' (Kd.N_lt (by (with_reducible repeat (first | apply Kd.N_alloc | apply Kd.N_drewN | apply Kd.N_drew)); exact HO_15.out)) k_ hk⟩)); (case aO => exact (by (with_reducible repeat (first | apply Kd.N_alloc | apply Kd.N_drewN | apply Kd.N_drew)); exact Kd.N_mono HO_17.out (fun _ hk => ⟨hk.1.1, hk.1.2⟩))); (case aS => exact (below_size (by repeat (first | (with_reducible first | exact HB.out | apply below_alloc | apply pw_below_drewN | apply below_drew1) | exact HB.out)))); (case aL => have := LMc30.out; omega); intro v511 w32 ho hb hg hat; rw [← Ny510.out] at ho; have n0_ := Aside0.mk (Kd.N_afterv (ok := (fun k_ => some k_ ≠ (.slice Ao23 x15_1.length co23 : Value).ownBlock ∧ some k_ ≠ (.slice Ao33 t507.length co33 : Value).ownBlock)) (by (with_reducible repeat (first | apply Kd.N_alloc | apply Kd.N_drewN | apply Kd.N_drew)); exact Kd.N_mono HO_13.out (fun _ hk => ⟨⟨hk.1.1, hk.2⟩, hk.1.2⟩)) hg hat); have n1_ := Aside0.mk (Kd.N_afterv (ok := (fun k_ => some k_ ≠ (.slice Ao22 t492.length co22 : Value).ownBlock ∧ some k_ ≠ (.slice Ao33 t507.length co33 : Value).ownBlock)) (by (with_reducible repeat (first | apply Kd.N_alloc | apply Kd.N_drewN | apply Kd.N_drew)); exact Kd.N_mono HO_15.out (fun _ hk => ⟨⟨hk.1.1, hk.2⟩, hk.1.2⟩)) hg hat); have n2_ := Aside0.mk (hb); have n3_ := Aside0.mk (ho); clear HO_13; clear HO_15; clear HB; clear HO_17; clear HO509; have HO_13 := n0_; have HO_15 := n1_; have HB := n2_; have HO512 := n3_; clear n0_ n1_ n2_ n3_; clear ho hb hg hat))
              go_roundg k3
              case measure => have := HK1.out; have := HJ20.out; have := HK3.out; omega
              case rel => exact ⟨(y510), (wrap64 (x18_3 + 1)), (by first | rfl | (simp; done) | (simp [*]; done)), H', ⟨by have := HK1.out; have := HJ20.out; have := HK3.out; omega⟩, ⟨by (with_reducible repeat (first | apply Kd.N_alloc | apply Kd.N_drewN | apply Kd.N_drew)); exact Kd.N_mono HO_13.out (fun _ hk => ⟨hk.1.1, hk.2⟩)⟩, ⟨by (with_reducible repeat (first | apply Kd.N_alloc | apply Kd.N_drewN | apply Kd.N_drew)); exact Kd.N_mono HO_15.out (fun _ hk => ⟨hk.1.1, hk.2⟩)⟩, ⟨by (with_reducible repeat (first | apply Kd.N_alloc | apply Kd.N_drewN | apply Kd.N_drew)); exact HO512.out⟩, ⟨by repeat (first | (with_reducible first | exact HB.out | apply below_alloc | apply pw_below_drewN | apply below_drew1) | exact HB.out)⟩⟩
             ·rw [if_neg c30] at H
              exact absurd H (by simp)
            ·rw [if_neg c28] at H
             exact absurd H (by simp)
           ·rw [if_neg c27] at H
            have c27b0 : decide (x18_3 < 12) = false := decide_eq_false c27
            clear c27
            have H' := Aside0.mk H
            clear H
            go_wp2
            go_meet
            case rel => exact ⟨_, (x17_3), H', ⟨by have := HK1.out; have := HJ20.out; have := HK3.out; first | omega | exact Nat.le_refl _⟩, ⟨by (with_reducible repeat (first | apply Kd.N_alloc | apply Kd.N_drewN | apply Kd.N_drew)); exact HO_13.out⟩, ⟨by (with_reducible repeat (first | apply Kd.N_alloc | apply Kd.N_drewN | apply Kd.N_drew)); exact HO_15.out⟩, ⟨by (with_reducible repeat (first | apply Kd.N_alloc | apply Kd.N_drewN | apply Kd.N_drew)); exact HO_17.out⟩, ⟨by repeat (first | (with_reducible first | exact HB.out | apply below_alloc | apply pw_below_drewN | apply below_drew1) | exact HB.out)⟩⟩
          ·rw [if_neg c26] at H
           have c26b0 : decide (x18_3 < (l4.length : Int)) = false := decide_eq_false c26
           clear c26
           (first | rw [c26b0] | (simp only [i64_w, i32_w]; rw [c26b0]) | skip)
           have H' := Aside0.mk H
           clear H
           go_wp2
           go_meet
           case rel => exact ⟨_, (x17_3), H', ⟨by have := HK1.out; have := HJ20.out; have := HK3.out; first | omega | exact Nat.le_refl _⟩, ⟨by (with_reducible repeat (first | apply Kd.N_alloc | apply Kd.N_drewN | apply Kd.N_drew)); exact HO_13.out⟩, ⟨by (with_reducible repeat (first | apply Kd.N_alloc | apply Kd.N_drewN | apply Kd.N_drew)); exact HO_15.out⟩, ⟨by (with_reducible repeat (first | apply Kd.N_alloc | apply Kd.N_drewN | apply Kd.N_drew)); exact HO_17.out⟩, ⟨by repeat (first | (with_reducible first | exact HB.out | apply below_alloc | apply pw_below_drewN | apply below_drew1) | exact HB.out)⟩⟩
       case rest =>
        clear HC25
        try clear c1
        try clear c2
        try clear p2
        try clear c3
        try clear c4
        try clear p4
        try clear q4
        try clear hx4
        try clear c5
        try clear p5
        try clear q5
        try clear hx5
        try clear p6
        try clear c9
        try clear c11
        try clear c11b0
        try clear c12
        try clear c12b0
        try clear c13
        try clear c14
        try clear c20
        try clear c24
        try clear c24b0
        try clear c24b1
        try clear c26
        try clear c26b0
        try clear c27
        try clear c27b0
        try clear c28
        try clear c28b0
        try clear c30
        try clear hx499_0
        try clear hx506_0
        try clear p2
        try clear p4
        try clear p499
        try clear p506
        try clear p6
        try clear q4
        try clear q499
        try clear q506
        obtain ⟨kq, x17_24, HA, HJ24, HO_13, HO_15, HO_17, HB⟩ := hcut
        cases kq with
        | zero => exact absurd HA.out (by simp [l14_BoundsRanges.j3])
        | succ kj24 =>
         have H := HA.out
         clear HA
         simp only [l14_BoundsRanges.j3] at H
         obtain ⟨y513, hy513⟩ : ∃ y_ : List (List (List Int)), y_ = (([t492, x15_1, x17_24, []] : List (List (List Int)))) := ⟨_, rfl⟩
         replace H : (l14_BoundsRanges.l2 kj24 l1 y513 0) = some r := by first | (rw [hy513]; with_reducible exact H) | (have H2_ := (Option.bind_some _ _).symm.trans H; rw [hy513]; with_reducible exact H2_) | (have H2_ := (Option.bind_some _ _).symm.trans H; with_reducible exact H2_) | with_reducible exact H | (rw [hy513]; exact H) | exact H
         have Ny513 := Aside0.mk hy513
         clear hy513
         have H' := Aside0.mk H
         clear H
         obtain ⟨Ao34, co34, eo34⟩ := Kd.N_slice HO_17.out
         subst eo34
         go_wp2_with (first | ((with_reducible refine gate_dst (N := 97) rfl ?_); refine Kd.N_lit (Kd.slice 22 (Kd.slice 3 (Kd.int .i64))) _ 29 ?hg (N' := 97) ?hd (xs := ([t492, x15_1, x17_24, []] : List (List (List Int)))) (inner := [.slice Ao22 t492.length co22, .slice Ao23 x15_1.length co23, .slice Ao34 x17_24.length co34, .slice none 0 0]) (ok := (fun _ => True)) (okp := (fun _ => True)) ?hr ?hp (fun _ hk => hk) ((show ∀ k_, wc.heap.size ≤ k_ → (fun _ => True) k_ from fun k_ hk => trivial) _ (Nat.le_refl _)) (Below.refl _ _) (Nat.le_refl _) (by simp) ?_; (case hd => rfl); (case hg => rfl); (case hr => first | (go_simp; done) | (go_simp; rfl)); (case hp => exact (Reps.one (show Kd.FK (Kd.slice 22 (Kd.slice 3 (Kd.int .i64))) _ _ t492 [.slice Ao22 t492.length co22] from (Kd.FK_slice_mk (Kd.N_reads' (Kd.N_mono (ok' := (fun _ => True)) (HO_13.out) (fun k_ hk => trivial))).2.1 (Kd.N_F (Kd.N_mono (ok' := (fun _ => True)) (HO_13.out) (fun k_ hk => trivial))))) (Reps.one (show Kd.FK (Kd.slice 22 (Kd.slice 3 (Kd.int .i64))) _ _ x15_1 [.slice Ao23 x15_1.length co23] from (Kd.FK_slice_mk (Kd.N_reads' (Kd.N_mono (ok' := (fun _ => True)) (HO_15.out) (fun k_ hk => trivial))).2.1 (Kd.N_F (Kd.N_mono (ok' := (fun _ => True)) (HO_15.out) (fun k_ hk => trivial))))) (Reps.one (show Kd.FK (Kd.slice 22 (Kd.slice 3 (Kd.int .i64))) _ _ x17_24 [.slice Ao34 x17_24.length co34] from (Kd.FK_slice_mk (Kd.N_reads' (Kd.N_mono (ok' := (fun _ => True)) (HO_17.out) (fun k_ hk => trivial))).2.1 (Kd.N_F (Kd.N_mono (ok' := (fun _ => True)) (HO_17.out) (fun k_ hk => trivial))))) (Reps.one (show Kd.FK (Kd.slice 22 (Kd.slice 3 (Kd.int .i64))) _ _ [] [.slice none 0 0] from (Kd.FK_slice_mk (Nat.le_refl _) (Kd.F_nil _ _ _))) (Reps.none _ _)))))); intro v514 w35 ho36 hb hg_ hnew_; clear hg_ hnew_; (first | rw [← Ny513.out] at ho36 | (simp only [Int.reduceToNat] at ho36; rw [← Ny513.out] at ho36)); have n0_ := Aside0.mk (Kd.N_lower ho36 (below_size (by repeat (first | (with_reducible first | exact HB.out | apply below_alloc | apply pw_below_drewN | apply below_drew1) | exact HB.out)))); have n1_ := Aside0.mk (below_step (by repeat (first | (with_reducible first | exact HB.out | apply below_alloc | apply pw_below_drewN | apply below_drew1) | exact HB.out)) hb); clear HB; clear HO_13; clear HO_15; clear HO_17; have HO515 := n0_; have HB := n1_; clear n0_ n1_; clear hb ho36))
         go_loopg [20] kj24 (fun kq v20 w' => ∃ (x20_4 : Int), v20 = .int .i64 x20_4 ∧ Aside0 (l14_BoundsRanges.l2 kq l1 y513 x20_4 = some r) ∧ Aside0 (kq ≤ kj24) ∧ Aside0 (Kd.N (Kd.slice 22 (Kd.slice 3 (Kd.int .i64))) 29 w' w.heap.size (fun _ => True) v514 y513) ∧ Aside0 (Below w.heap.size w w'))
         case atStart => exact ⟨(0), (by first | rfl | (simp; done) | (simp [*]; done)), H', ⟨Nat.le_refl _⟩, ⟨by (with_reducible repeat (first | apply Kd.N_alloc | apply Kd.N_drewN | apply Kd.N_drew)); exact HO515.out⟩, ⟨by repeat (first | (with_reducible first | exact HB.out | apply below_alloc | apply pw_below_drewN | apply below_drew1) | exact HB.out)⟩⟩
         case round =>
          clear H'
          try clear c1
          try clear c2
          try clear p2
          try clear c3
          try clear c4
          try clear p4
          try clear q4
          try clear hx4
          try clear c5
          try clear p5
          try clear q5
          try clear hx5
          try clear p6
          try clear c9
          try clear c11
          try clear c11b0
          try clear c12
          try clear c12b0
          try clear c13
          try clear c14
          try clear c20
          try clear c24
          try clear c24b0
          try clear c24b1
          try clear c26
          try clear c26b0
          try clear c27
          try clear c27b0
          try clear c28
          try clear c28b0
          try clear c30
          try clear hx499_0
          try clear hx506_0
          try clear p2
          try clear p4
          try clear p499
          try clear p5
          try clear p506
          try clear p6
          try clear q4
          try clear q499
          try clear q5
          try clear q506
          obtain ⟨x20_4, rfl, HA, HK4, HO_19, HB⟩ := hrel
          cases gk with
          | zero => exact absurd HA.out (by simp [l14_BoundsRanges.l2])
          | succ k4 =>
           have H := HA.out
           clear HA
           simp only [l14_BoundsRanges.l2] at H
           by_cases c37 : x20_4 < (y513.length : Int)
           ·rw [if_pos c37] at H
            have c37b0 : decide (x20_4 < (y513.length : Int)) = true := decide_eq_true c37
            clear c37
            have H' := Aside0.mk H
            clear H
            obtain ⟨Ao38, co38, eo38⟩ := Kd.N_slice HO_19.out
            subst eo38
            go_wp2
            go_loopg [21] k4 (fun kq v21 w' => ∃ (x21_5 : Int), v21 = .int .i64 x21_5 ∧ Aside0 (l14_BoundsRanges.l3 kq l1 y513 x20_4 x21_5 = some r) ∧ Aside0 (kq ≤ k4) ∧ Aside0 (Kd.N (Kd.slice 22 (Kd.slice 3 (Kd.int .i64))) 29 w' w.heap.size (fun _ => True) (.slice Ao38 y513.length co38) y513) ∧ Aside0 (Below w.heap.size w w'))
            case atStart => exact ⟨(0), (by first | rfl | (simp; done) | (simp [*]; done)), H', ⟨Nat.le_refl _⟩, ⟨by (with_reducible repeat (first | apply Kd.N_alloc | apply Kd.N_drewN | apply Kd.N_drew)); exact HO_19.out⟩, ⟨by repeat (first | (with_reducible first | exact HB.out | apply below_alloc | apply pw_below_drewN | apply below_drew1) | exact HB.out)⟩⟩
            case round =>
             clear H'
             try clear c1
             try clear c2
             try clear p2
             try clear c3
             try clear c4
             try clear p4
             try clear q4
             try clear hx4
             try clear c5
             try clear p5
             try clear q5
             try clear hx5
             try clear p6
             try clear c9
             try clear c11
             try clear c11b0
             try clear c12
             try clear c12b0
             try clear c13
             try clear c14
             try clear c20
             try clear c24
             try clear c24b0
             try clear c24b1
             try clear c26
             try clear c26b0
             try clear c27
             try clear c27b0
             try clear c28
             try clear c28b0
             try clear c30
             try clear c37
             try clear c37b0
             try clear hx499_0
             try clear hx506_0
             try clear p2
             try clear p4
             try clear p499
             try clear p5
             try clear p506
             try clear p6
             try clear q4
             try clear q499
             try clear q5
             try clear q506
             obtain ⟨x21_5, rfl, HA, HK5, HO_19, HB⟩ := hrel
             cases gk with
             | zero => exact absurd HA.out (by simp [l14_BoundsRanges.l3])
             | succ k5 =>
              have H := HA.out
              clear HA
              simp only [l14_BoundsRanges.l3] at H
              have HC39 := Aside0.mk H
              clear H
              go_upto_region 20 with (fail)
              go_cut [111] (fun v111 wc => ∃ (kq : Nat) (x111_38 : Bool), v111 = .bool x111_38 ∧ Aside0 (l14_BoundsRanges.j6 kq l1 y513 x20_4 x21_5 x111_38 = some r) ∧ Aside0 (kq ≤ k5) ∧ Aside0 (Kd.N (Kd.slice 22 (Kd.slice 3 (Kd.int .i64))) 29 wc w.heap.size (fun _ => True) (.slice Ao38 y513.length co38) y513) ∧ Aside0 (Below w.heap.size w wc))
              case first =>
               have H := HC39.out
               clear HC39
               by_cases c40 : x21_5 ≤ (l1.length : Int)
               ·rw [if_pos c40] at H
                have c40b0 : decide (x21_5 ≤ (l1.length : Int)) = true := decide_eq_true c40
                clear c40
                (first | rw [c40b0] | (simp only [i64_w, i32_w]; rw [c40b0]) | skip)
                have H' := Aside0.mk H
                clear H
                go_wp2
                go_meet
                case rel => exact ⟨_, (decide (x21_5 < 8)), (by first | rfl | (simp; done) | (simp [*]; done)), H', ⟨by have := HK1.out; have := HJ20.out; have := HJ24.out; have := HK4.out; have := HK5.out; first | omega | exact Nat.le_refl _⟩, ⟨by (with_reducible repeat (first | apply Kd.N_alloc | apply Kd.N_drewN | apply Kd.N_drew)); exact HO_19.out⟩, ⟨by repeat (first | (with_reducible first | exact HB.out | apply below_alloc | apply pw_below_drewN | apply below_drew1) | exact HB.out)⟩⟩
               ·rw [if_neg c40] at H
                have c40b0 : decide (x21_5 ≤ (l1.length : Int)) = false := decide_eq_false c40
                clear c40
                (first | rw [c40b0] | (simp only [i64_w, i32_w]; rw [c40b0]) | skip)
                have H' := Aside0.mk H
                clear H
                go_wp2
                go_meet
                case rel => exact ⟨_, (false), (by first | rfl | (simp; done) | (simp [*]; done)), H', ⟨by have := HK1.out; have := HJ20.out; have := HJ24.out; have := HK4.out; have := HK5.out; first | omega | exact Nat.le_refl _⟩, ⟨by (with_reducible repeat (first | apply Kd.N_alloc | apply Kd.N_drewN | apply Kd.N_drew)); exact HO_19.out⟩, ⟨by repeat (first | (with_reducible first | exact HB.out | apply below_alloc | apply pw_below_drewN | apply below_drew1) | exact HB.out)⟩⟩
              case rest =>
               clear HC39
               try clear c1
               try clear c2
               try clear p2
               try clear c3
               try clear c4
               try clear p4
               try clear q4
               try clear hx4
               try clear c5
               try clear p5
               try clear q5
               try clear hx5
               try clear p6
               try clear c9
               try clear c11
               try clear c11b0
               try clear c12
               try clear c12b0
               try clear c13
               try clear c14
               try clear c20
               try clear c24
               try clear c24b0
               try clear c24b1
               try clear c26
               try clear c26b0
               try clear c27
               try clear c27b0
               try clear c28
               try clear c28b0
               try clear c30
               try clear c37
               try clear c37b0
               try clear c40
               try clear c40b0
               try clear hx499_0
               try clear hx506_0
               try clear p2
               try clear p4
               try clear p499
               try clear p5
               try clear p506
               try clear p6
               try clear q4
               try clear q499
               try clear q5
               try clear q506
               obtain ⟨kq, x111_38, rfl, HA, HJ38, HO_19, HB⟩ := hcut
               cases kq with
               | zero => exact absurd HA.out (by simp [l14_BoundsRanges.j6])
               | succ kj38 =>
                have H := HA.out
                clear HA
                simp only [l14_BoundsRanges.j6] at H
                by_cases c41 : x111_38 = true
                ·subst c41
                 have H1 : (if 0 ≤ x20_4 then (if x20_4 < (y513.length : Int) then (if 0 ≤ x21_5 then (if x21_5 ≤ (l1.length : Int) then ((bounds_Range.f (rd_L6 y513 x20_4) (l1.take (x21_5 : Int).toNat)).bind fun bt519 => ((r14_Range.f kj38 (rd_L6 y513 x20_4) (l1.take (x21_5 : Int).toNat)).bind fun bt524 => (if bt519.1 = bt524.1 then (if bt519.2.1 = bt524.2.1 then (if bt519.2.2 = bt524.2.2 then (l14_BoundsRanges.l3 kj38 l1 y513 x20_4 (wrap64 (x21_5 + 1))) else (some false)) else (some false)) else (some false)))) else (none)) else (none)) else (none)) else (none)) = some r := by rw [if_pos rfl] at H; exact H
                 clear H
                 have H := H1
                 clear H1
                 by_cases c42 : 0 ≤ x20_4
                 ·rw [if_pos c42] at H
                  have c42b0 : decide (0 ≤ x20_4) = true := decide_eq_true c42
                  clear c42
                  by_cases c43 : x20_4 < (y513.length : Int)
                  ·rw [if_pos c43] at H
                   have c43b0 : decide (x20_4 < (y513.length : Int)) = true := decide_eq_true c43
                   clear c43
                   by_cases c44 : 0 ≤ x21_5
                   ·rw [if_pos c44] at H
                    have c44b0 := eq_true c44
                    have c44b1 : decide (0 ≤ x21_5) = true := decide_eq_true c44
                    clear c44
                    by_cases c45 : x21_5 ≤ (l1.length : Int)
                    ·rw [if_pos c45] at H
                     have c45b0 := eq_true c45
                     have c45b1 : decide (x21_5 ≤ (l1.length : Int)) = true := decide_eq_true c45
                     clear c45
                     replace H := Option.bind_eq_some_iff.mp H
                     obtain ⟨⟨t519, t520, t521⟩, A460, H⟩ := H
                     replace H : ((r14_Range.f kj38 (rd_L6 y513 x20_4) (l1.take (x21_5 : Int).toNat)).bind fun bt524 => (if t519 = bt524.1 then (if t520 = bt524.2.1 then (if t521 = bt524.2.2 then (l14_BoundsRanges.l3 kj38 l1 y513 x20_4 (wrap64 (x21_5 + 1))) else (some false)) else (some false)) else (some false))) = some r := H
                     have A46 := Aside0.mk A460
                     clear A460
                     have c47b0 := eq_true (of_decide_eq_true (by first | (with_reducible assumption) | assumption) : 0 ≤ x21_5)
                     have c48b0 := eq_true (of_decide_eq_true (by first | (with_reducible assumption) | assumption) : x21_5 ≤ (l1.length : Int))
                     replace H := Option.bind_eq_some_iff.mp H
                     obtain ⟨⟨t524, t525, t526⟩, A490, H⟩ := H
                     replace H : (if t519 = t524 then (if t520 = t525 then (if t521 = t526 then (l14_BoundsRanges.l3 kj38 l1 y513 x20_4 (wrap64 (x21_5 + 1))) else (some false)) else (some false)) else (some false)) = some r := H
                     have A49 := Aside0.mk A490
                     clear A490
                     by_cases c50 : t519 = t524
                     ·rw [if_pos c50] at H
                      have c50b0 : (t519 == t524) = true := beq_iff_eq.mpr c50
                      have c50b1 : (t519 != t524) = false := bne_eq_false_iff_eq.mpr c50
                      clear c50
                      by_cases c51 : t520 = t525
                      ·rw [if_pos c51] at H
                       have c51b0 : (t520 == t525) = true := beq_iff_eq.mpr c51
                       have c51b1 : (t520 != t525) = false := bne_eq_false_iff_eq.mpr c51
                       clear c51
                       by_cases c52 : t521 = t526
                       ·rw [if_pos c52] at H
                        have c52b0 : (t521 == t526) = true := beq_iff_eq.mpr c52
                        have c52b1 : (t521 != t526) = false := bne_eq_false_iff_eq.mpr c52
                        clear c52
                        have H' := Aside0.mk H
                        clear H
                        try go_wp2
                        have n0_ := Aside0.mk (Kd.N_drew HO_19.out)
                        have n1_ := Aside0.mk (below_drew1 HB.out)
                        clear HO_19
                        clear HB
                        have HO_19 := n0_
                        have HB := n1_
                        clear n0_ n1_
                        have p517 : 0 ≤ (x20_4 : Int) := of_decide_eq_true (by first | (with_reducible assumption) | assumption)
                        have q517 : x20_4 < (y513.length : Int) := of_decide_eq_true (by first | (with_reducible assumption) | assumption)
                        obtain ⟨ad517, A517_0, c517_0, e517, hx517_0, hl517_0, hi517_0⟩ := at_L6 (Kd.N_reads' HO_19.out).2.2 x20_4 p517 q517
                        cases e517
                        obtain ⟨ce517, hce517, hMe517, hcc517⟩ := Kd.N_get HO_19.out [] x20_4 p517 (by first | exact q517 | exact of_decide_eq_true (by first | (with_reducible assumption) | assumption) | (have e_ := (Kd.N_reads' HO_19.out).1; omega))
                        obtain ⟨ua517_0, uc517_0, rfl, ul517_0, ge517_0⟩ := Kd.FK_slice_open hMe517
                        have hv517_0 := hcc517 0 _ rfl
                        rw [Nat.add_zero, show ((Kd.slice 22 (Kd.slice 3 (Kd.int .i64)))).sz = 1 from rfl, Nat.mul_one] at hv517_0
                        replace hv517_0 := Option.some.inj (hv517_0.symm.trans hx517_0)
                        injection hv517_0 with hva_ hvn_ hvc_
                        rw [hva_] at ge517_0
                        rw [hvc_] at ul517_0
                        have HL517_0 := Aside0.mk (show Kd.V (Kd.slice 3 (Kd.int .i64)) 22 _ w.heap.size _ _ (rd_L6 y513 x20_4) from Kd.V_mk ul517_0 ge517_0)
                        clear hva_ hvn_ hvc_ ge517_0 ul517_0
                        clear hcc517 hce517
                        have HR517_0 := Aside0.mk hi517_0
                        have HC517_0 := Aside0.mk hl517_0
                        clear hi517_0 hl517_0
                        replace p517 := eq_true p517
                        replace q517 := eq_true q517
                        obtain ⟨i054, hi054, _, hsz54, _⟩ := info_parts info3
                        obtain ⟨hcut54, hA54, hC54⟩ := print_take_of (P := Try.prog) (Value.int .i64) 0 22 3 .i64 Try.underlying22 hi054 hsz54 A1 c1 l1 x21_5 (of_decide_eq_true (by first | (with_reducible assumption) | assumption)) (of_decide_eq_true (by first | (with_reducible assumption) | assumption)) HC1.out
                        have HR518 := Aside0.mk (Kd.C_of_reads (h1 := fun _ => rfl) (hA54 _ (Kd.reads_of_C HR1.out)))
                        have HC518 := Aside0.mk hC54
                        clear hA54 hC54 hi054 hsz54
                        refine start_ (n := 15) (S := fun w' => w'.cell? (ad517.add (x20_4).toNat) = some (.slice A517_0 (rd_L6 y513 x20_4).length c517_0)) (ds := []) #[false, false, false, false, false, false, false, false, false, false, false, false, false, false, false] (by kernel_rfl) rfl rfl (hx517_0) (fun hHeld => ?_); refine with_tabW l14_BoundsRanges.tab22 l14_BoundsRanges.bits22 (fun HT_ HW_ => ?_)
                        generalize wc.drew = w53 at HO_19 HB HL517_0 HR517_0 HR518 hx517_0 hHeld ⊢
                        refine pS_ 0 (some 115) rfl rfl HT_.out (by kernel_rfl) ?_ (fun _ _ _ h => h) (by rfl) ?_ ?_ ?_ ?_
                        rotate_left
                        ·intro w'
                         go_simp
                         with_reducible rfl
                        rotate_left
                        ·simp only [Act.put, List.setIfInBounds_toArray, List.set_cons_zero, List.set_cons_succ, i64_w, i32_w]
                         rfl
                        refine pS_ 1 (some 116) rfl rfl HT_.out (by kernel_rfl) ?_ (fun _ _ _ h => h) (by rfl) ?_ ?_ ?_ ?_
                        rotate_left
                        ·intro w'
                         go_simp
                         with_reducible rfl
                        rotate_left
                        ·simp only [Act.put, List.setIfInBounds_toArray, List.set_cons_zero, List.set_cons_succ, i64_w, i32_w]
                         rfl
                        refine pS_ 2 (some 117) rfl rfl HT_.out (by kernel_rfl) ?_ (fun _ _ _ h => h) (by rfl) ?_ ?_ ?_ ?_
                        rotate_left
                        ·intro w'
                         go_simp
                         with_reducible rfl
                        rotate_left
                        ·simp only [Act.put, List.setIfInBounds_toArray, List.set_cons_zero, List.set_cons_succ, i64_w, i32_w]
                         rfl
                        refine pS_ 4 (some 119) rfl rfl HT_.out (by kernel_rfl) ?_ (fun _ _ _ h => h) (by rfl) ?_ ?_ ?_ ?_
                        rotate_left
                        ·intro w'
                         go_simp
                         with_reducible rfl
                        rotate_left
                        ·simp only [Act.put, List.setIfInBounds_toArray, List.set_cons_zero, List.set_cons_succ, i64_w, i32_w]
                         rfl
                        refine pS_ 5 (some 120) rfl rfl HT_.out (by kernel_rfl) ?_ (fun _ _ _ h => h) (by rfl) ?_ ?_ ?_ ?_
                        rotate_left
                        ·intro w'
                         go_simp
                         with_reducible rfl
                        rotate_left
                        ·simp only [Act.put, List.setIfInBounds_toArray, List.set_cons_zero, List.set_cons_succ, i64_w, i32_w]
                         rfl
                        refine pS_ 6 (some 121) rfl rfl HT_.out (by kernel_rfl) ?_ (fun _ _ _ h => h) (by rfl) ?_ ?_ ?_ ?_
                        rotate_left
                        ·intro w'
                         go_simp
                         with_reducible rfl
                        rotate_left
                        ·simp only [Act.put, List.setIfInBounds_toArray, List.set_cons_zero, List.set_cons_succ, i64_w, i32_w]
                         rfl
                        refine take_ (i := 3) (N := some 118) (v := ?_) (a' := ?_) #[true, true, true, true, true, true, true, false, false, false, false, false, false, false, false] rfl rfl (take_ofW HT_.out HW_.out (by kernel_rfl)) (fun _ _ _ h => h) (Or.inl ⟨by rfl, ?_⟩) hHeld ?_ ?_
                        rotate_left
                        ·intro w' s0
                         go_simp
                         with_reducible rfl
                        rotate_left
                        ·simp only [Act.put, List.setIfInBounds_toArray, List.set_cons_zero, List.set_cons_succ, i64_w, i32_w]
                         rfl
                        refine one_ (i := 7) (N := some 122) #[true, true, true, true, true, true, true, true, false, false, false, false, false, false, false] rfl rfl (one_of HT_.out (by kernel_rfl)) (by decide) (fun K hK => ?_)
                        refine goes_ Try.func21 (by kernel_rfl) rfl #[.slice A517_0 (rd_L6 y513 x20_4).length c517_0, .slice A1 (l1.take (x21_5 : Int).toNat).length c1] (by rfl) rfl rfl (by (try simp only [List.map_toArray, List.map_cons, List.map_nil]); first | done | (rw [show (l1.take (x21_5 : Int).toNat).length = x21_5.toNat from (by rw [List.length_take]; have h_ : (x21_5 : Int) ≤ (l1.length : Int) := of_decide_eq_true (by first | (with_reducible assumption) | assumption); omega)] <;> rfl) | rfl | (simp only [List.length_drop, List.length_take]; rfl)) ?_
                        with_reducible refine (bounds_Range.calls _ _ (rd_L6 y513 x20_4) _ _ (l1.take (x21_5 : Int).toNat) t519 t520 t521 _ ?side1 ?side2 ?side3 ?side4 A46.out).mono ?_
                        (case side1 => repeat (first | exact (by repeat (first | (with_reducible exact HR517_0.out) | (with_reducible refine Kd.C_alloc ?_ _) | (with_reducible refine Kd.C_drewN ?_ _) | (with_reducible refine Kd.C_drew ?_) | exact HR517_0.out)) | (with_reducible refine Kd.C_alloc ?_ _) | (with_reducible refine Kd.C_drewN ?_ _) | (with_reducible refine Kd.C_drew ?_)))
                        (case side2 => exact HC517_0.out)
                        (case side3 => repeat (first | exact (Kd.C_below HR518.out HB.out) | (with_reducible refine Kd.C_alloc ?_ _) | (with_reducible refine Kd.C_drewN ?_ _) | (with_reducible refine Kd.C_drew ?_)))
                        (case side4 => exact HC518.out)
                        rintro e w55 ⟨rfl, hb⟩
                        have HS0_ := (hb.cell (World.block_lt_of_cell? _ _ (hHeld))).trans (hHeld)
                        refine ⟨_, rfl, ?_⟩
                        have n0_ := Aside0.mk (Kd.N_below (by (with_reducible repeat (first | apply Kd.N_alloc | apply Kd.N_drewN | apply Kd.N_drew)); exact HO_19.out) hb)
                        have n1_ := Aside0.mk (Kd.V_below (by (with_reducible repeat (first | apply Kd.V_alloc | apply Kd.V_drewN | apply Kd.V_drew)); exact HL517_0.out) hb)
                        have n2_ := Aside0.mk (Kd.C_below (by repeat (first | (with_reducible exact HR517_0.out) | (with_reducible refine Kd.C_alloc ?_ _) | (with_reducible refine Kd.C_drewN ?_ _) | (with_reducible refine Kd.C_drew ?_) | exact HR517_0.out)) hb)
                        have n3_ := Aside0.mk (below_step (by repeat (first | (with_reducible first | exact HB.out | apply below_alloc | apply pw_below_drewN | apply below_drew1) | exact HB.out)) hb)
                        clear HO_19
                        clear HL517_0
                        clear HR517_0
                        clear HB
                        have HO_19 := n0_
                        have HL517_0 := n1_
                        have HR517_0 := n2_
                        have HB := n3_
                        clear n0_ n1_ n2_ n3_
                        (try clear hb)
                        (try clear hb2)
                        (try clear hk)
                        (try clear hi)
                        refine hK.out _ _ (HS0_) (fun hHeld => ?_)
                        clear hK K
                        refine norm_ (a' := ?_) ?_ ?_
                        rotate_left
                        ·show Act.put _ (some 122) _ = _
                         simp only [Act.put, List.setIfInBounds_toArray, List.set_cons_zero, List.set_cons_succ, i64_w, i32_w]
                         rfl
                        refine pS_ 8 (some 114) rfl rfl HT_.out (by kernel_rfl) ?_ (fun _ _ _ h => h) (by rfl) ?_ ?_ ?_ ?_
                        rotate_left
                        ·intro w'
                         go_simp
                         with_reducible rfl
                        rotate_left
                        ·simp only [Act.put, List.setIfInBounds_toArray, List.set_cons_zero, List.set_cons_succ, i64_w, i32_w]
                         rfl
                        refine pS_ 9 (some 123) rfl rfl HT_.out (by kernel_rfl) ?_ (fun _ _ _ h => h) (by rfl) ?_ ?_ ?_ ?_
                        rotate_left
                        ·intro w'
                         go_simp
                         with_reducible rfl
                        rotate_left
                        ·simp only [Act.put, List.setIfInBounds_toArray, List.set_cons_zero, List.set_cons_succ, i64_w, i32_w]
                         rfl
                        refine pS_ 10 (some 124) rfl rfl HT_.out (by kernel_rfl) ?_ (fun _ _ _ h => h) (by rfl) ?_ ?_ ?_ ?_
                        rotate_left
                        ·intro w'
                         go_simp
                         with_reducible rfl
                        rotate_left
                        ·simp only [Act.put, List.setIfInBounds_toArray, List.set_cons_zero, List.set_cons_succ, i64_w, i32_w]
                         rfl
                        refine pS_ 11 (some 125) rfl rfl HT_.out (by kernel_rfl) ?_ (fun _ _ _ h => h) (by rfl) ?_ ?_ ?_ ?_
                        rotate_left
                        ·intro w'
                         go_simp
                         with_reducible rfl
                        rotate_left
                        ·simp only [Act.put, List.setIfInBounds_toArray, List.set_cons_zero, List.set_cons_succ, i64_w, i32_w]
                         rfl
                        refine pS_ 12 (some 22) rfl rfl HT_.out (by kernel_rfl) ?_ (fun _ _ _ h => h) (by rfl) ?_ ?_ ?_ ?_
                        rotate_left
                        ·intro w'
                         go_simp
                         with_reducible rfl
                        rotate_left
                        ·simp only [Act.put, List.setIfInBounds_toArray, List.set_cons_zero, List.set_cons_succ, i64_w, i32_w]
                         rfl
                        refine pS_ 13 (some 23) rfl rfl HT_.out (by kernel_rfl) ?_ (fun _ _ _ h => h) (by rfl) ?_ ?_ ?_ ?_
                        rotate_left
                        ·intro w'
                         go_simp
                         with_reducible rfl
                        rotate_left
                        ·simp only [Act.put, List.setIfInBounds_toArray, List.set_cons_zero, List.set_cons_succ, i64_w, i32_w]
                         rfl
                        refine pS_ 14 (some 24) rfl rfl HT_.out (by kernel_rfl) ?_ (fun _ _ _ h => h) (by rfl) ?_ ?_ ?_ ?_
                        rotate_left
                        ·intro w'
                         go_simp
                         with_reducible rfl
                        rotate_left
                        ·simp only [Act.put, List.setIfInBounds_toArray, List.set_cons_zero, List.set_cons_succ, i64_w, i32_w]
                         rfl
                        refine done_ (done_of HT_.out (by kernel_rfl)) ?_
                        try go_wp2
                        have n0_ := Aside0.mk (Kd.N_drew HO_19.out)
                        have n1_ := Aside0.mk (Kd.V_drew HL517_0.out)
                        have n2_ := Aside0.mk (Kd.C_drew HR517_0.out)
                        have n3_ := Aside0.mk (below_drew1 HB.out)
                        clear HO_19
                        clear HL517_0
                        clear HR517_0
                        clear HB
                        have HO_19 := n0_
                        have HL517_0 := n1_
                        have HR517_0 := n2_
                        have HB := n3_
                        clear n0_ n1_ n2_ n3_
                        have p522 : 0 ≤ (x20_4 : Int) := of_decide_eq_true (by first | (with_reducible assumption) | assumption)
                        have q522 : x20_4 < (y513.length : Int) := of_decide_eq_true (by first | (with_reducible assumption) | assumption)
                        obtain ⟨ad522, A522_0, c522_0, e522, hx522_0, hl522_0, hi522_0⟩ := at_L6 (Kd.N_reads' HO_19.out).2.2 x20_4 p522 q522
                        obtain rfl : ad517 = ad522 := (by injection e522)
                        obtain ⟨ce522, hce522, hMe522, hcc522⟩ := Kd.N_get HO_19.out [] x20_4 p522 (by first | exact q522 | exact of_decide_eq_true (by first | (with_reducible assumption) | assumption) | (have e_ := (Kd.N_reads' HO_19.out).1; omega))
                        obtain ⟨ua522_0, uc522_0, rfl, ul522_0, ge522_0⟩ := Kd.FK_slice_open hMe522
                        have hv522_0 := hcc522 0 _ rfl
                        rw [Nat.add_zero, show ((Kd.slice 22 (Kd.slice 3 (Kd.int .i64)))).sz = 1 from rfl, Nat.mul_one] at hv522_0
                        replace hv522_0 := Option.some.inj (hv522_0.symm.trans hx522_0)
                        injection hv522_0 with hva_ hvn_ hvc_
                        rw [hva_] at ge522_0
                        rw [hvc_] at ul522_0
                        have HL522_0 := Aside0.mk (show Kd.V (Kd.slice 3 (Kd.int .i64)) 22 _ w.heap.size _ _ (rd_L6 y513 x20_4) from Kd.V_mk ul522_0 ge522_0)
                        clear hva_ hvn_ hvc_ ge522_0 ul522_0
                        clear hcc522 hce522
                        have HR522_0 := Aside0.mk hi522_0
                        have HC522_0 := Aside0.mk hl522_0
                        clear hi522_0 hl522_0
                        replace p522 := eq_true p522
                        replace q522 := eq_true q522
                        obtain ⟨i057, hi057, _, hsz57, _⟩ := info_parts info3
                        obtain ⟨hcut57, hA57, hC57⟩ := print_take_of (P := Try.prog) (Value.int .i64) 0 22 3 .i64 Try.underlying22 hi057 hsz57 A1 c1 l1 x21_5 (of_decide_eq_true (by first | (with_reducible assumption) | assumption)) (of_decide_eq_true (by first | (with_reducible assumption) | assumption)) HC1.out
                        have HR523 := Aside0.mk (Kd.C_of_reads (h1 := fun _ => rfl) (hA57 _ (Kd.reads_of_C HR1.out)))
                        have HC523 := Aside0.mk hC57
                        clear hA57 hC57 hi057 hsz57
                        refine start_ (n := 15) (S := fun w' => w'.cell? (ad517.add (x20_4).toNat) = some (.slice A522_0 (rd_L6 y513 x20_4).length c522_0)) (ds := []) #[false, false, false, false, false, false, false, false, false, false, false, false, false, false, false] (by kernel_rfl) rfl rfl (hx522_0) (fun hHeld => ?_); refine with_tabW l14_BoundsRanges.tab23 l14_BoundsRanges.bits23 (fun HT_ HW_ => ?_)
                        generalize w55.drew = w56 at HO_19 HL517_0 HR517_0 HB HL522_0 HR522_0 HR523 hx522_0 hHeld ⊢
                        refine pS_ 0 (some 127) rfl rfl HT_.out (by kernel_rfl) ?_ (fun _ _ _ h => h) (by rfl) ?_ ?_ ?_ ?_
                        rotate_left
                        ·intro w'
                         go_simp
                         with_reducible rfl
                        rotate_left
                        ·simp only [Act.put, List.setIfInBounds_toArray, List.set_cons_zero, List.set_cons_succ, i64_w, i32_w]
                         rfl
                        refine pS_ 1 (some 128) rfl rfl HT_.out (by kernel_rfl) ?_ (fun _ _ _ h => h) (by rfl) ?_ ?_ ?_ ?_
                        rotate_left
                        ·intro w'
                         go_simp
                         with_reducible rfl
                        rotate_left
                        ·simp only [Act.put, List.setIfInBounds_toArray, List.set_cons_zero, List.set_cons_succ, i64_w, i32_w]
                         rfl
                        refine pS_ 2 (some 129) rfl rfl HT_.out (by kernel_rfl) ?_ (fun _ _ _ h => h) (by rfl) ?_ ?_ ?_ ?_
                        rotate_left
                        ·intro w'
                         go_simp
                         with_reducible rfl
                        rotate_left
                        ·simp only [Act.put, List.setIfInBounds_toArray, List.set_cons_zero, List.set_cons_succ, i64_w, i32_w]
                         rfl
                        refine pS_ 4 (some 131) rfl rfl HT_.out (by kernel_rfl) ?_ (fun _ _ _ h => h) (by rfl) ?_ ?_ ?_ ?_
                        rotate_left
                        ·intro w'
                         go_simp
                         with_reducible rfl
                        rotate_left
                        ·simp only [Act.put, List.setIfInBounds_toArray, List.set_cons_zero, List.set_cons_succ, i64_w, i32_w]
                         rfl
                        refine pS_ 5 (some 132) rfl rfl HT_.out (by kernel_rfl) ?_ (fun _ _ _ h => h) (by rfl) ?_ ?_ ?_ ?_
                        rotate_left
                        ·intro w'
                         go_simp
                         with_reducible rfl
                        rotate_left
                        ·simp only [Act.put, List.setIfInBounds_toArray, List.set_cons_zero, List.set_cons_succ, i64_w, i32_w]
                         rfl
                        refine pS_ 6 (some 133) rfl rfl HT_.out (by kernel_rfl) ?_ (fun _ _ _ h => h) (by rfl) ?_ ?_ ?_ ?_
                        rotate_left
                        ·intro w'
                         go_simp
                         with_reducible rfl
                        rotate_left
                        ·simp only [Act.put, List.setIfInBounds_toArray, List.set_cons_zero, List.set_cons_succ, i64_w, i32_w]
                         rfl
                        refine take_ (i := 3) (N := some 130) (v := ?_) (a' := ?_) #[true, true, true, true, true, true, true, false, false, false, false, false, false, false, false] rfl rfl (take_ofW HT_.out HW_.out (by kernel_rfl)) (fun _ _ _ h => h) (Or.inl ⟨by rfl, ?_⟩) hHeld ?_ ?_
                        rotate_left
                        ·intro w' s0
                         go_simp
                         with_reducible rfl
                        rotate_left
                        ·simp only [Act.put, List.setIfInBounds_toArray, List.set_cons_zero, List.set_cons_succ, i64_w, i32_w]
                         rfl
                        refine one_ (i := 7) (N := some 134) #[true, true, true, true, true, true, true, true, false, false, false, false, false, false, false] rfl rfl (one_of HT_.out (by kernel_rfl)) (by decide) (fun K hK => ?_)
                        refine goes_ Try.func22 (by kernel_rfl) rfl #[.slice A522_0 (rd_L6 y513 x20_4).length c522_0, .slice A1 (l1.take (x21_5 : Int).toNat).length c1] (by rfl) rfl rfl (by (try simp only [List.map_toArray, List.map_cons, List.map_nil]); first | done | (rw [show (l1.take (x21_5 : Int).toNat).length = x21_5.toNat from (by rw [List.length_take]; have h_ : (x21_5 : Int) ≤ (l1.length : Int) := of_decide_eq_true (by first | (with_reducible assumption) | assumption); omega)] <;> rfl) | rfl | (simp only [List.length_drop, List.length_take]; rfl)) ?_
                        with_reducible refine (r14_Range.calls kj38 _ _ (rd_L6 y513 x20_4) _ _ (l1.take (x21_5 : Int).toNat) t524 t525 t526 _ ?side1 ?side2 ?side3 ?side4 A49.out).mono ?_
                        (case side1 => repeat (first | exact (by repeat (first | (with_reducible exact HR522_0.out) | (with_reducible refine Kd.C_alloc ?_ _) | (with_reducible refine Kd.C_drewN ?_ _) | (with_reducible refine Kd.C_drew ?_) | exact HR522_0.out)) | (with_reducible refine Kd.C_alloc ?_ _) | (with_reducible refine Kd.C_drewN ?_ _) | (with_reducible refine Kd.C_drew ?_)))
                        (case side2 => exact HC522_0.out)
                        (case side3 => repeat (first | exact (Kd.C_below HR523.out HB.out) | (with_reducible refine Kd.C_alloc ?_ _) | (with_reducible refine Kd.C_drewN ?_ _) | (with_reducible refine Kd.C_drew ?_)))
                        (case side4 => exact HC523.out)
                        rintro e w' ⟨rfl, ⟨nd, rfl⟩⟩
                        refine ⟨_, rfl, ?_⟩
                        refine hK.out _ _ (hHeld) (fun hHeld => ?_)
                        clear hK K
                        refine norm_ (a' := ?_) ?_ ?_
                        rotate_left
                        ·show Act.put _ (some 134) _ = _
                         simp only [Act.put, List.setIfInBounds_toArray, List.set_cons_zero, List.set_cons_succ, i64_w, i32_w]
                         rfl
                        refine pS_ 8 (some 126) rfl rfl HT_.out (by kernel_rfl) ?_ (fun _ _ _ h => h) (by rfl) ?_ ?_ ?_ ?_
                        rotate_left
                        ·intro w'
                         go_simp
                         with_reducible rfl
                        rotate_left
                        ·simp only [Act.put, List.setIfInBounds_toArray, List.set_cons_zero, List.set_cons_succ, i64_w, i32_w]
                         rfl
                        refine pS_ 9 (some 135) rfl rfl HT_.out (by kernel_rfl) ?_ (fun _ _ _ h => h) (by rfl) ?_ ?_ ?_ ?_
                        rotate_left
                        ·intro w'
                         go_simp
                         with_reducible rfl
                        rotate_left
                        ·simp only [Act.put, List.setIfInBounds_toArray, List.set_cons_zero, List.set_cons_succ, i64_w, i32_w]
                         rfl
                        refine pS_ 10 (some 136) rfl rfl HT_.out (by kernel_rfl) ?_ (fun _ _ _ h => h) (by rfl) ?_ ?_ ?_ ?_
                        rotate_left
                        ·intro w'
                         go_simp
                         with_reducible rfl
                        rotate_left
                        ·simp only [Act.put, List.setIfInBounds_toArray, List.set_cons_zero, List.set_cons_succ, i64_w, i32_w]
                         rfl
                        refine pS_ 11 (some 137) rfl rfl HT_.out (by kernel_rfl) ?_ (fun _ _ _ h => h) (by rfl) ?_ ?_ ?_ ?_
                        rotate_left
                        ·intro w'
                         go_simp
                         with_reducible rfl
                        rotate_left
                        ·simp only [Act.put, List.setIfInBounds_toArray, List.set_cons_zero, List.set_cons_succ, i64_w, i32_w]
                         rfl
                        refine pS_ 12 (some 25) rfl rfl HT_.out (by kernel_rfl) ?_ (fun _ _ _ h => h) (by rfl) ?_ ?_ ?_ ?_
                        rotate_left
                        ·intro w'
                         go_simp
                         with_reducible rfl
                        rotate_left
                        ·simp only [Act.put, List.setIfInBounds_toArray, List.set_cons_zero, List.set_cons_succ, i64_w, i32_w]
                         rfl
                        refine pS_ 13 (some 26) rfl rfl HT_.out (by kernel_rfl) ?_ (fun _ _ _ h => h) (by rfl) ?_ ?_ ?_ ?_
                        rotate_left
                        ·intro w'
                         go_simp
                         with_reducible rfl
                        rotate_left
                        ·simp only [Act.put, List.setIfInBounds_toArray, List.set_cons_zero, List.set_cons_succ, i64_w, i32_w]
                         rfl
                        refine pS_ 14 (some 27) rfl rfl HT_.out (by kernel_rfl) ?_ (fun _ _ _ h => h) (by rfl) ?_ ?_ ?_ ?_
                        rotate_left
                        ·intro w'
                         go_simp
                         with_reducible rfl
                        rotate_left
                        ·simp only [Act.put, List.setIfInBounds_toArray, List.set_cons_zero, List.set_cons_succ, i64_w, i32_w]
                         rfl
                        refine done_ (done_of HT_.out (by kernel_rfl)) ?_
                        try go_wp2
                        go_roundg kj38
                        case measure => have := HK1.out; have := HJ20.out; have := HJ24.out; have := HK4.out; have := HK5.out; have := HJ38.out; omega
                        case rel => exact ⟨(wrap64 (x21_5 + 1)), (by first | rfl | (simp; done) | (simp [*]; done)), H', ⟨by have := HK1.out; have := HJ20.out; have := HJ24.out; have := HK4.out; have := HK5.out; have := HJ38.out; omega⟩, ⟨by (with_reducible repeat (first | apply Kd.N_alloc | apply Kd.N_drewN | apply Kd.N_drew)); exact HO_19.out⟩, ⟨by repeat (first | (with_reducible first | exact HB.out | apply below_alloc | apply pw_below_drewN | apply below_drew1) | exact HB.out)⟩⟩
                       ·rw [if_neg c52] at H
                        have c52b0 : (t521 == t526) = false := beq_eq_false_iff_ne.mpr c52
                        have c52b1 : (t521 != t526) = true := bne_iff_ne.mpr c52
                        exact absurd H (by rw [HT.out]; simp)
                      ·rw [if_neg c51] at H
                       have c51b0 : (t520 == t525) = false := beq_eq_false_iff_ne.mpr c51
                       have c51b1 : (t520 != t525) = true := bne_iff_ne.mpr c51
                       exact absurd H (by rw [HT.out]; simp)
                     ·rw [if_neg c50] at H
                      have c50b0 : (t519 == t524) = false := beq_eq_false_iff_ne.mpr c50
                      have c50b1 : (t519 != t524) = true := bne_iff_ne.mpr c50
                      exact absurd H (by rw [HT.out]; simp)
                    ·rw [if_neg c45] at H
                     exact absurd H (by simp)
                   ·rw [if_neg c44] at H
                    exact absurd H (by simp)
                  ·rw [if_neg c43] at H
                   exact absurd H (by simp)
                 ·rw [if_neg c42] at H
                  exact absurd H (by simp)
                ·replace c41 := Bool.eq_false_iff.mpr c41
                 subst c41
                 have H1 : (l14_BoundsRanges.l2 kj38 l1 y513 (wrap64 (x20_4 + 1))) = some r := by rw [if_neg (show ¬ (false = true) by decide)] at H; exact H
                 clear H
                 have H := H1
                 clear H1
                 have H' := Aside0.mk H
                 clear H
                 go_wp2
                 go_roundg kj38
                 case measure => have := HK1.out; have := HJ20.out; have := HJ24.out; have := HK4.out; have := HK5.out; have := HJ38.out; omega
                 case rel => exact ⟨(wrap64 (x20_4 + 1)), (by first | rfl | (simp; done) | (simp [*]; done)), H', ⟨by have := HK1.out; have := HJ20.out; have := HJ24.out; have := HK4.out; have := HK5.out; have := HJ38.out; omega⟩, ⟨by (with_reducible repeat (first | apply Kd.N_alloc | apply Kd.N_drewN | apply Kd.N_drew)); exact HO_19.out⟩, ⟨by repeat (first | (with_reducible first | exact HB.out | apply below_alloc | apply pw_below_drewN | apply below_drew1) | exact HB.out)⟩⟩
           ·rw [if_neg c37] at H
            have c37b0 : decide (x20_4 < (y513.length : Int)) = false := decide_eq_false c37
            clear c37
            replace H := Option.bind_eq_some_iff.mp H
            obtain ⟨t516, A580, H⟩ := H
            replace H : (some t516) = some r := H
            have A58 := Aside0.mk A580
            clear A580
            obtain rfl := Option.some.inj H
            obtain ⟨Ao59, co59, eo59⟩ := Kd.N_slice HO_19.out
            subst eo59
            go_wp2_with (first | ((with_reducible refine gate_callee (f := 19) rfl ?_); refine goesL_ (some 151) rfl rfl Try.func19 (by kernel_rfl) rfl #[] rfl (by (try simp only [List.map_toArray, List.map_cons, List.map_nil]); first | done | rfl | (simp only [List.length_drop, List.length_take]; rfl)) ?_; (with_reducible refine (l14_lives.calls k4  t516 _ A58.out).mono ?_); rintro e w60 ⟨rfl, hb⟩; refine ⟨_, rfl, ?_⟩; have n0_ := Aside0.mk (Kd.N_below (by (with_reducible repeat (first | apply Kd.N_alloc | apply Kd.N_drewN | apply Kd.N_drew)); exact HO_19.out) hb); have n1_ := Aside0.mk (below_step (by repeat (first | (with_reducible first | exact HB.out | apply below_alloc | apply pw_below_drewN | apply below_drew1) | exact HB.out)) hb); clear HO_19; clear HB; have HO_19 := n0_; have HB := n1_; clear n0_ n1_; (try clear hb); (try clear hb2); (try clear hk); (try clear hi)))
            go_ret
            exact ⟨by first | rfl | (simp [errW_none, errW_some] <;> rfl) | (simp [*, errW_none, errW_some] <;> rfl), by repeat (first | (with_reducible first | exact HB.out | apply below_alloc | apply pw_below_drewN | apply below_drew1) | exact HB.out)⟩

end Go.Proofs.Ytcnkjcbjlopkmaa.Q
