-- Written out of the translation by a program of this session (wip/tools/myprint.py, over the kit's print). Lean checks it.
import Derived.Test.YtcnkjcbjlopkmaaCyc
import Derived.Test.YtcnkjcbjlopkmaaHid
import Derived.Test.YtcnkjcbjlopkmaaSh
import Derived.Test.YtcnkjcbjlopkmaaQ0
import Derived.Test.YtcnkjcbjlopkmaaQ1
import Derived.Test.YtcnkjcbjlopkmaaQ5
import Derived.Test.YtcnkjcbjlopkmaaQ11
import Derived.Test.YtcnkjcbjlopkmaaQ12
namespace Go.Proofs.Ytcnkjcbjlopkmaa.Q
open Go.RowKit Go.Proofs.YtcnkjcbjlopkmaaW.PrintWords Go.Proofs.YtcnkjcbjlopkmaaW.PrintLast Go.Proofs.YtcnkjcbjlopkmaaW.PrintMore
attribute [local go_sem] max2_int min2_int max_two min_two max_three min_three max_four min_four   -- for this text's walks alone
set_option linter.unusedVariables false
set_option linter.unusedSimpArgs false

/-! ### l14_BoundsContradiction: function 7 -/
mutual
def l14_BoundsContradiction.j0 : Nat → Int → Int → List (S54) → List (List Int) → Int → List Int → Int → Bool → Option (Bool)
 | 0, _, _, _, _, _, _, _, _ => none
 | k + 1, x1, x5, x6, x7, x8, x9, x10, x50 => if x50 = true then (some false) else ((r01_Around.f x1 (wrap64 ((x6.length : Int) + 1))).bind fun t689 => (if 0 ≤ t689 then (if t689 ≤ (x6.length : Int) then ((some (x6.drop (t689 : Int).toNat : List (S54))).bind fun y690 => (if ([] : List (S54)).length + y690.length < 5864062014805 then ((some (([] : List (S54)) ++ y690 : List (S54))).bind fun y694 => ((some (x6.take (t689 : Int).toNat : List (S54))).bind fun y697 => (if y694.length + y697.length < 5864062014805 then ((l14_own.f k (y694 ++ y697)).bind fun t704 => ((bounds_Close.f k x5 t704).bind fun bt707 => (if bt707.2 = x8 then ((r14_SameTables.f k bt707.1 x7).bind fun t711 => (l14_BoundsContradiction.j1 k x5 x6 x9 x10 (!t711))) else (l14_BoundsContradiction.j1 k x5 x6 x9 x10 true)))) else (none)))) else (none))) else (none)) else (none)))
def l14_BoundsContradiction.j1 : Nat → Int → List (S54) → List Int → Int → Bool → Option (Bool)
 | 0, _, _, _, _, _ => none
 | k + 1, x5, x6, x9, x10, x80 => if x80 = true then (some false) else (l14_BoundsContradiction.l0 k x5 x6 x9 x10 (-1))
def l14_BoundsContradiction.l0 : Nat → Int → List (S54) → List Int → Int → Int → Option (Bool)
 | 0, _, _, _, _, _ => none
 | k + 1, x5, x6, x9, x10, x15 => if x15 < (x9.length : Int) then (l14_BoundsContradiction.l1 k x5 x6 x9 x10 x15 ([] : List (S55)) 0) else ((l14_lives.f k).bind fun t712 => (some t712))
def l14_BoundsContradiction.l1 : Nat → Int → List (S54) → List Int → Int → Int → List (S55) → Int → Option (Bool)
 | 0, _, _, _, _, _, _, _ => none
 | k + 1, x5, x6, x9, x10, x15, x16, x17 => if x17 < (x9.length : Int) then (if 0 ≤ x17 then (if (rd x9 x17) < 0 then (l14_BoundsContradiction.j4 k x5 x6 x9 x10 x15 x16 x17 true) else (l14_BoundsContradiction.j4 k x5 x6 x9 x10 x15 x16 x17 (decide ((rd x9 x17) ≥ (x6.length : Int))))) else (none)) else (if x10 = 0 then ((bounds_Close.f k x5 x16).bind fun bt724 => (if x15 < 0 then (if bt724.2 = 14 then (if x15 ≥ 0 then (if bt724.2 = 0 then (l14_BoundsContradiction.l0 k x5 x6 x9 x10 (wrap64 (x15 + 1))) else (some false)) else (l14_BoundsContradiction.l0 k x5 x6 x9 x10 (wrap64 (x15 + 1)))) else (some false)) else (if x15 ≥ 0 then (if bt724.2 = 0 then (l14_BoundsContradiction.l0 k x5 x6 x9 x10 (wrap64 (x15 + 1))) else (some false)) else (l14_BoundsContradiction.l0 k x5 x6 x9 x10 (wrap64 (x15 + 1)))))) else ((l14_lives.f k).bind fun t728 => (some t728)))
def l14_BoundsContradiction.j4 : Nat → Int → List (S54) → List Int → Int → Int → List (S55) → Int → Bool → Option (Bool)
 | 0, _, _, _, _, _, _, _, _ => none
 | k + 1, x5, x6, x9, x10, x15, x16, x17, x106 => if x106 = true then (some false) else (if x17 = x15 then (l14_BoundsContradiction.l1 k x5 x6 x9 x10 x15 x16 (wrap64 (x17 + 1))) else (if 0 ≤ x17 then (if x17 < (x9.length : Int) then (if 0 ≤ (rd x9 x17) then (if (rd x9 x17) < (x6.length : Int) then (if x16.length < 5864062014805 then (l14_BoundsContradiction.l1 k x5 x6 x9 x10 x15 (x16 ++ [(⟨(rd_T54 x6 (rd x9 x17)).f0, (rd_T54 x6 (rd x9 x17)).f1, (rd_T54 x6 (rd x9 x17)).f2⟩ : S55)]) (wrap64 (x17 + 1))) else (none)) else (none)) else (none)) else (none)) else (none)))
end
def l14_BoundsContradiction.f (k : Nat) (l0 : List Int) (a1 : Int) : Option (Bool) := (r14_Made.f k l0).bind fun bt671 => ((l14_own.f k bt671.2).bind fun t675 => ((bounds_Close.f k bt671.1 t675).bind fun bt678 => ((l14_own.f k bt671.2).bind fun t682 => ((bounds_Cycle.f bt671.1 t682).bind fun bt685 => (if ((bt678.2 == 0) != (bt685.2 == 6)) = true then (l14_BoundsContradiction.j0 k a1 bt671.1 bt671.2 bt678.1 bt678.2 bt685.1 bt685.2 true) else (l14_BoundsContradiction.j0 k a1 bt671.1 bt671.2 bt678.1 bt678.2 bt685.1 bt685.2 ((bt678.2 == 14) != (bt685.2 == 0))))))))
theorem l14_BoundsContradiction.mono_l : ∀ k, (∀ y0 y1 y2 y3 y4 y5 y6 y7, LeO (l14_BoundsContradiction.j0 k y0 y1 y2 y3 y4 y5 y6 y7) (l14_BoundsContradiction.j0 (k + 1) y0 y1 y2 y3 y4 y5 y6 y7)) ∧ (∀ y0 y1 y2 y3 y4, LeO (l14_BoundsContradiction.j1 k y0 y1 y2 y3 y4) (l14_BoundsContradiction.j1 (k + 1) y0 y1 y2 y3 y4)) ∧ (∀ y0 y1 y2 y3 y4, LeO (l14_BoundsContradiction.l0 k y0 y1 y2 y3 y4) (l14_BoundsContradiction.l0 (k + 1) y0 y1 y2 y3 y4)) ∧ (∀ y0 y1 y2 y3 y4 y5 y6, LeO (l14_BoundsContradiction.l1 k y0 y1 y2 y3 y4 y5 y6) (l14_BoundsContradiction.l1 (k + 1) y0 y1 y2 y3 y4 y5 y6)) ∧ (∀ y0 y1 y2 y3 y4 y5 y6 y7, LeO (l14_BoundsContradiction.j4 k y0 y1 y2 y3 y4 y5 y6 y7) (l14_BoundsContradiction.j4 (k + 1) y0 y1 y2 y3 y4 y5 y6 y7))
 | 0 => ⟨fun _ _ _ _ _ _ _ _ r h => by simp [l14_BoundsContradiction.j0] at h, fun _ _ _ _ _ r h => by simp [l14_BoundsContradiction.j1] at h, fun _ _ _ _ _ r h => by simp [l14_BoundsContradiction.l0] at h, fun _ _ _ _ _ _ _ r h => by simp [l14_BoundsContradiction.l1] at h, fun _ _ _ _ _ _ _ _ r h => by simp [l14_BoundsContradiction.j4] at h⟩
 | k + 1 => by
  obtain ⟨ih0, ih1, ih2, ih3, ih4⟩ := l14_BoundsContradiction.mono_l k
  refine ⟨?_, ?_, ?_, ?_, ?_⟩
  ·intro y0 y1 y2 y3 y4 y5 y6 y7
   unfold l14_BoundsContradiction.j0
   repeat' first
   | (with_reducible exact ih0 _ _ _ _ _ _ _ _)
   | (with_reducible exact ih1 _ _ _ _ _)
   | (with_reducible exact ih2 _ _ _ _ _)
   | (with_reducible exact ih3 _ _ _ _ _ _ _)
   | (with_reducible exact ih4 _ _ _ _ _ _ _ _)
   | (with_reducible exact bounds_Close.mono _ _ _)
   | (with_reducible exact l14_lives.mono _)
   | (with_reducible exact l14_own.mono _ _)
   | (with_reducible exact r14_Made.mono _ _)
   | (with_reducible exact r14_SameTables.mono _ _ _)
   | (with_reducible exact LeO.refl _)
   | (with_reducible exact LeO.none _)
   | (with_reducible refine LeO.ite ?_ ?_)
   | (with_reducible refine LeO.bind ?_ (fun _ => ?_))
   | exact ih0 _ _ _ _ _ _ _ _
   | exact ih1 _ _ _ _ _
   | exact ih2 _ _ _ _ _
   | exact ih3 _ _ _ _ _ _ _
   | exact ih4 _ _ _ _ _ _ _ _
   | exact bounds_Close.mono _ _ _
   | exact l14_lives.mono _
   | exact l14_own.mono _ _
   | exact r14_Made.mono _ _
   | exact r14_SameTables.mono _ _ _
   | exact LeO.none _
   | refine LeO.ite ?_ ?_
   | refine LeO.bind ?_ (fun _ => ?_)
  ·intro y0 y1 y2 y3 y4
   unfold l14_BoundsContradiction.j1
   repeat' first
   | (with_reducible exact ih0 _ _ _ _ _ _ _ _)
   | (with_reducible exact ih1 _ _ _ _ _)
   | (with_reducible exact ih2 _ _ _ _ _)
   | (with_reducible exact ih3 _ _ _ _ _ _ _)
   | (with_reducible exact ih4 _ _ _ _ _ _ _ _)
   | (with_reducible exact bounds_Close.mono _ _ _)
   | (with_reducible exact l14_lives.mono _)
   | (with_reducible exact l14_own.mono _ _)
   | (with_reducible exact r14_Made.mono _ _)
   | (with_reducible exact r14_SameTables.mono _ _ _)
   | (with_reducible exact LeO.refl _)
   | (with_reducible exact LeO.none _)
   | (with_reducible refine LeO.ite ?_ ?_)
   | (with_reducible refine LeO.bind ?_ (fun _ => ?_))
   | exact ih0 _ _ _ _ _ _ _ _
   | exact ih1 _ _ _ _ _
   | exact ih2 _ _ _ _ _
   | exact ih3 _ _ _ _ _ _ _
   | exact ih4 _ _ _ _ _ _ _ _
   | exact bounds_Close.mono _ _ _
   | exact l14_lives.mono _
   | exact l14_own.mono _ _
   | exact r14_Made.mono _ _
   | exact r14_SameTables.mono _ _ _
   | exact LeO.none _
   | refine LeO.ite ?_ ?_
   | refine LeO.bind ?_ (fun _ => ?_)
  ·intro y0 y1 y2 y3 y4
   unfold l14_BoundsContradiction.l0
   repeat' first
   | (with_reducible exact ih0 _ _ _ _ _ _ _ _)
   | (with_reducible exact ih1 _ _ _ _ _)
   | (with_reducible exact ih2 _ _ _ _ _)
   | (with_reducible exact ih3 _ _ _ _ _ _ _)
   | (with_reducible exact ih4 _ _ _ _ _ _ _ _)
   | (with_reducible exact bounds_Close.mono _ _ _)
   | (with_reducible exact l14_lives.mono _)
   | (with_reducible exact l14_own.mono _ _)
   | (with_reducible exact r14_Made.mono _ _)
   | (with_reducible exact r14_SameTables.mono _ _ _)
   | (with_reducible exact LeO.refl _)
   | (with_reducible exact LeO.none _)
   | (with_reducible refine LeO.ite ?_ ?_)
   | (with_reducible refine LeO.bind ?_ (fun _ => ?_))
   | exact ih0 _ _ _ _ _ _ _ _
   | exact ih1 _ _ _ _ _
   | exact ih2 _ _ _ _ _
   | exact ih3 _ _ _ _ _ _ _
   | exact ih4 _ _ _ _ _ _ _ _
   | exact bounds_Close.mono _ _ _
   | exact l14_lives.mono _
   | exact l14_own.mono _ _
   | exact r14_Made.mono _ _
   | exact r14_SameTables.mono _ _ _
   | exact LeO.none _
   | refine LeO.ite ?_ ?_
   | refine LeO.bind ?_ (fun _ => ?_)
  ·intro y0 y1 y2 y3 y4 y5 y6
   unfold l14_BoundsContradiction.l1
   repeat' first
   | (with_reducible exact ih0 _ _ _ _ _ _ _ _)
   | (with_reducible exact ih1 _ _ _ _ _)
   | (with_reducible exact ih2 _ _ _ _ _)
   | (with_reducible exact ih3 _ _ _ _ _ _ _)
   | (with_reducible exact ih4 _ _ _ _ _ _ _ _)
   | (with_reducible exact bounds_Close.mono _ _ _)
   | (with_reducible exact l14_lives.mono _)
   | (with_reducible exact l14_own.mono _ _)
   | (with_reducible exact r14_Made.mono _ _)
   | (with_reducible exact r14_SameTables.mono _ _ _)
   | (with_reducible exact LeO.refl _)
   | (with_reducible exact LeO.none _)
   | (with_reducible refine LeO.ite ?_ ?_)
   | (with_reducible refine LeO.bind ?_ (fun _ => ?_))
   | exact ih0 _ _ _ _ _ _ _ _
   | exact ih1 _ _ _ _ _
   | exact ih2 _ _ _ _ _
   | exact ih3 _ _ _ _ _ _ _
   | exact ih4 _ _ _ _ _ _ _ _
   | exact bounds_Close.mono _ _ _
   | exact l14_lives.mono _
   | exact l14_own.mono _ _
   | exact r14_Made.mono _ _
   | exact r14_SameTables.mono _ _ _
   | exact LeO.none _
   | refine LeO.ite ?_ ?_
   | refine LeO.bind ?_ (fun _ => ?_)
  ·intro y0 y1 y2 y3 y4 y5 y6 y7
   unfold l14_BoundsContradiction.j4
   repeat' first
   | (with_reducible exact ih0 _ _ _ _ _ _ _ _)
   | (with_reducible exact ih1 _ _ _ _ _)
   | (with_reducible exact ih2 _ _ _ _ _)
   | (with_reducible exact ih3 _ _ _ _ _ _ _)
   | (with_reducible exact ih4 _ _ _ _ _ _ _ _)
   | (with_reducible exact bounds_Close.mono _ _ _)
   | (with_reducible exact l14_lives.mono _)
   | (with_reducible exact l14_own.mono _ _)
   | (with_reducible exact r14_Made.mono _ _)
   | (with_reducible exact r14_SameTables.mono _ _ _)
   | (with_reducible exact LeO.refl _)
   | (with_reducible exact LeO.none _)
   | (with_reducible refine LeO.ite ?_ ?_)
   | (with_reducible refine LeO.bind ?_ (fun _ => ?_))
   | exact ih0 _ _ _ _ _ _ _ _
   | exact ih1 _ _ _ _ _
   | exact ih2 _ _ _ _ _
   | exact ih3 _ _ _ _ _ _ _
   | exact ih4 _ _ _ _ _ _ _ _
   | exact bounds_Close.mono _ _ _
   | exact l14_lives.mono _
   | exact l14_own.mono _ _
   | exact r14_Made.mono _ _
   | exact r14_SameTables.mono _ _ _
   | exact LeO.none _
   | refine LeO.ite ?_ ?_
   | refine LeO.bind ?_ (fun _ => ?_)
theorem l14_BoundsContradiction.mono : ∀ a0 a1 k, LeO (l14_BoundsContradiction.f k a0 a1) (l14_BoundsContradiction.f (k + 1) a0 a1) := by
 intro a0 a1 k
 obtain ⟨ih0, ih1, ih2, ih3, ih4⟩ := l14_BoundsContradiction.mono_l k
 unfold l14_BoundsContradiction.f
 repeat' first
   | (with_reducible exact ih0 _ _ _ _ _ _ _ _)
   | (with_reducible exact ih1 _ _ _ _ _)
   | (with_reducible exact ih2 _ _ _ _ _)
   | (with_reducible exact ih3 _ _ _ _ _ _ _)
   | (with_reducible exact ih4 _ _ _ _ _ _ _ _)
   | (with_reducible exact bounds_Close.mono _ _ _)
   | (with_reducible exact l14_lives.mono _)
   | (with_reducible exact l14_own.mono _ _)
   | (with_reducible exact r14_Made.mono _ _)
   | (with_reducible exact r14_SameTables.mono _ _ _)
   | (with_reducible exact LeO.refl _)
   | (with_reducible exact LeO.none _)
   | (with_reducible refine LeO.ite ?_ ?_)
   | (with_reducible refine LeO.bind ?_ (fun _ => ?_))
   | exact ih0 _ _ _ _ _ _ _ _
   | exact ih1 _ _ _ _ _
   | exact ih2 _ _ _ _ _
   | exact ih3 _ _ _ _ _ _ _
   | exact ih4 _ _ _ _ _ _ _ _
   | exact bounds_Close.mono _ _ _
   | exact l14_lives.mono _
   | exact l14_own.mono _ _
   | exact r14_Made.mono _ _
   | exact r14_SameTables.mono _ _ _
   | exact LeO.none _
   | refine LeO.ite ?_ ?_
   | refine LeO.bind ?_ (fun _ => ?_)
def l14_BoundsContradiction.T8 : Bool × List (List Nat × List Nat) := (true, [([], []), ([], []), ([], []), ([1, 2], [1, 2]), ([0, 3], [0, 3]), ([], []), ([], []), ([5, 6], [5, 6]), ([4, 7, 4], [4, 7]), ([8, 8, 0, 1, 2, 3, 4, 5, 6, 7, 8], [0, 8])])
def l14_BoundsContradiction.B8 : List Nat := [0, 0, 0, 6, 15, 0, 0, 96, 255, 511]
theorem l14_BoundsContradiction.tab8 : rtab .any (opsOf Try.f7 8) = l14_BoundsContradiction.T8 := by kernel_rfl
theorem l14_BoundsContradiction.bits8 : waitsOk l14_BoundsContradiction.T8.2 l14_BoundsContradiction.B8 = true := by kernel_rfl
def l14_BoundsContradiction.T22 : Bool × List (List Nat × List Nat) := (true, [([], []), ([], []), ([], []), ([], []), ([2, 3], [2, 3]), ([4], [4]), ([1, 5], [1, 5]), ([6], [6]), ([7], [7]), ([], []), ([], []), ([], []), ([10, 11], [10, 11]), ([12], [12]), ([9, 13], [9, 13]), ([14], [14]), ([15], [15]), ([], []), ([], []), ([], []), ([18, 19], [18, 19]), ([20], [20]), ([17, 21], [17, 21]), ([22], [22]), ([23], [23]), ([8, 16, 24], [8, 16, 24]), ([25], [25]), ([0, 26], [0, 26]), ([27, 27, 0, 1, 2, 3, 4, 5, 6, 7, 8, 9, 10, 11, 12, 13, 14, 15, 16, 17, 18, 19, 20, 21, 22, 23, 24, 25, 26, 27], [0, 27])])
def l14_BoundsContradiction.B22 : List Nat := [0, 0, 0, 0, 12, 28, 62, 126, 254, 0, 0, 0, 3072, 7168, 15872, 32256, 65024, 0, 0, 0, 786432, 1835008, 4063232, 8257536, 16646144, 33554430, 67108862, 134217727, 268435455]
theorem l14_BoundsContradiction.tab22 : rtab .any (opsOf Try.f7 22) = l14_BoundsContradiction.T22 := by kernel_rfl
theorem l14_BoundsContradiction.bits22 : waitsOk l14_BoundsContradiction.T22.2 l14_BoundsContradiction.B22 = true := by kernel_rfl
set_option maxHeartbeats 8000000 in
set_option maxRecDepth 100000 in
theorem l14_BoundsContradiction.calls (k : Nat) (A0 : Option Addr) (c0 : Nat) (l0 : List Int) (a1 : Int) (r : Bool) (w : World) (hr0 : Kd.C (Kd.int .i64) w A0 l0.length l0) (hc0 : l0.length ≤ c0) (h : l14_BoundsContradiction.f k l0 a1 = some r) (ht : r = true) :
  Calls Try.prog 7 #[.slice A0 l0.length c0, .int .i64 a1] w fun e w' => e = .returned (.bool r) ∧ Below w.heap.size w w' := by
 have HT := Aside0.mk ht
 clear ht
 have hu55 := Try.underlying55
 have HR0 := Aside0.mk hr0
 have HC0 := Aside0.mk hc0
 clear hr0 hc0
 have HB := Aside0.mk (Below.refl w.heap.size w)
 have H : ((r14_Made.f k l0).bind fun bt671 => ((l14_own.f k bt671.2).bind fun t675 => ((bounds_Close.f k bt671.1 t675).bind fun bt678 => ((l14_own.f k bt671.2).bind fun t682 => ((bounds_Cycle.f bt671.1 t682).bind fun bt685 => (if ((bt678.2 == 0) != (bt685.2 == 6)) = true then (l14_BoundsContradiction.j0 k a1 bt671.1 bt671.2 bt678.1 bt678.2 bt685.1 bt685.2 true) else (l14_BoundsContradiction.j0 k a1 bt671.1 bt671.2 bt678.1 bt678.2 bt685.1 bt685.2 ((bt678.2 == 14) != (bt685.2 == 0))))))))) = some r := h
 clear h
 replace H := Option.bind_eq_some_iff.mp H
 obtain ⟨⟨t671, t672⟩, A30, H⟩ := H
 replace H : ((l14_own.f k t672).bind fun t675 => ((bounds_Close.f k t671 t675).bind fun bt678 => ((l14_own.f k t672).bind fun t682 => ((bounds_Cycle.f t671 t682).bind fun bt685 => (if ((bt678.2 == 0) != (bt685.2 == 6)) = true then (l14_BoundsContradiction.j0 k a1 t671 t672 bt678.1 bt678.2 bt685.1 bt685.2 true) else (l14_BoundsContradiction.j0 k a1 t671 t672 bt678.1 bt678.2 bt685.1 bt685.2 ((bt678.2 == 14) != (bt685.2 == 0)))))))) = some r := H
 have A3 := Aside0.mk A30
 clear A30
 replace H := Option.bind_eq_some_iff.mp H
 obtain ⟨t675, A40, H⟩ := H
 replace H : ((bounds_Close.f k t671 t675).bind fun bt678 => ((l14_own.f k t672).bind fun t682 => ((bounds_Cycle.f t671 t682).bind fun bt685 => (if ((bt678.2 == 0) != (bt685.2 == 6)) = true then (l14_BoundsContradiction.j0 k a1 t671 t672 bt678.1 bt678.2 bt685.1 bt685.2 true) else (l14_BoundsContradiction.j0 k a1 t671 t672 bt678.1 bt678.2 bt685.1 bt685.2 ((bt678.2 == 14) != (bt685.2 == 0))))))) = some r := H
 have A4 := Aside0.mk A40
 clear A40
 replace H := Option.bind_eq_some_iff.mp H
 obtain ⟨⟨t678, t679⟩, A50, H⟩ := H
 replace H : ((l14_own.f k t672).bind fun t682 => ((bounds_Cycle.f t671 t682).bind fun bt685 => (if ((t679 == 0) != (bt685.2 == 6)) = true then (l14_BoundsContradiction.j0 k a1 t671 t672 t678 t679 bt685.1 bt685.2 true) else (l14_BoundsContradiction.j0 k a1 t671 t672 t678 t679 bt685.1 bt685.2 ((t679 == 14) != (bt685.2 == 0)))))) = some r := H
 have A5 := Aside0.mk A50
 clear A50
 replace H := Option.bind_eq_some_iff.mp H
 obtain ⟨t682, A60, H⟩ := H
 replace H : ((bounds_Cycle.f t671 t682).bind fun bt685 => (if ((t679 == 0) != (bt685.2 == 6)) = true then (l14_BoundsContradiction.j0 k a1 t671 t672 t678 t679 bt685.1 bt685.2 true) else (l14_BoundsContradiction.j0 k a1 t671 t672 t678 t679 bt685.1 bt685.2 ((t679 == 14) != (bt685.2 == 0))))) = some r := H
 have A6 := Aside0.mk A60
 clear A60
 replace H := Option.bind_eq_some_iff.mp H
 obtain ⟨⟨t685, t686⟩, A70, H⟩ := H
 replace H : (if ((t679 == 0) != (t686 == 6)) = true then (l14_BoundsContradiction.j0 k a1 t671 t672 t678 t679 t685 t686 true) else (l14_BoundsContradiction.j0 k a1 t671 t672 t678 t679 t685 t686 ((t679 == 14) != (t686 == 0)))) = some r := H
 have A7 := Aside0.mk A70
 clear A70
 have HC8 := Aside0.mk H
 clear H
 go_enter Try.func7, Try.ntmps7
 go_upto_region 4 with (first | ((with_reducible refine gate_callee (f := 9) rfl ?_); refine goesL_ (some 22) rfl rfl Try.func9 (by kernel_rfl) rfl #[.slice A0 l0.length c0] rfl (by (try simp only [List.map_toArray, List.map_cons, List.map_nil]); first | done | rfl | (simp only [List.length_drop, List.length_take]; rfl)) ?_; (with_reducible refine (r14_Made.calls k _ _ l0 t671 t672 _ ?side1 ?side2 A3.out).mono ?_); (case side1 => repeat (first | exact HR0.out | (with_reducible refine Kd.C_alloc ?_ _) | (with_reducible refine Kd.C_drewN ?_ _) | (with_reducible refine Kd.C_drew ?_))); (case side2 => exact HC0.out); rintro e w9 ⟨v673, rfl, ho0, hb⟩; refine ⟨_, rfl, ?_⟩; have n0_ := Aside0.mk (Kd.R_lower ho0 (below_size (by repeat (first | (with_reducible first | exact HB.out | apply below_alloc | apply pw_below_drewN | apply below_drew1) | exact HB.out)))); have n1_ := Aside0.mk (below_step (by repeat (first | (with_reducible first | exact HB.out | apply below_alloc | apply pw_below_drewN | apply below_drew1) | exact HB.out)) hb); clear HB; have HO674 := n0_; have HB := n1_; clear n0_ n1_; (try clear hb); (try clear hb2); (try clear hk); (try clear hi); (try clear ho0); obtain ⟨Ao10, co10, eo10⟩ := Kd.R_slice HO674.out; subst eo10) | ((with_reducible refine gate_callee (f := 13) rfl ?_); refine goesL_ (some 28) rfl rfl Try.func13 (by kernel_rfl) rfl #[.slice Ao10 t672.length co10] rfl (by (try simp only [List.map_toArray, List.map_cons, List.map_nil]); first | done | rfl | (simp only [List.length_drop, List.length_take]; rfl)) ?_; (with_reducible refine (l14_own.calls k _ _ t672 t675 _ ?side1 ?side2 A4.out).mono ?_); (case side1 => repeat (first | exact (Kd.R_reads' HO674.out).2.2 | (with_reducible refine Kd.C_alloc ?_ _) | (with_reducible refine Kd.C_drewN ?_ _) | (with_reducible refine Kd.C_drew ?_))); (case side2 => exact (Kd.R_reads' HO674.out).2.1); rintro e w11 ⟨v676, rfl, ho0, hb⟩; refine ⟨_, rfl, ?_⟩; have n0_ := Aside0.mk (Kd.R_below (by (with_reducible repeat (first | apply Kd.R_alloc | apply Kd.R_drewN | apply Kd.R_drew)); exact HO674.out) hb); have n1_ := Aside0.mk (Kd.R_lower ho0 (below_size (by repeat (first | (with_reducible first | exact HB.out | apply below_alloc | apply pw_below_drewN | apply below_drew1) | exact HB.out)))); have n2_ := Aside0.mk (below_step (by repeat (first | (with_reducible first | exact HB.out | apply below_alloc | apply pw_below_drewN | apply below_drew1) | exact HB.out)) hb); clear HO674; clear HB; have HO674 := n0_; have HO677 := n1_; have HB := n2_; clear n0_ n1_ n2_; (try clear hb); (try clear hb2); (try clear hk); (try clear hi); (try clear ho0); obtain ⟨Ao12, co12, eo12⟩ := Kd.R_slice HO677.out; subst eo12) | ((with_reducible refine gate_callee (f := 12) rfl ?_); refine goesL_ (some 29) rfl rfl Try.func12 (by kernel_rfl) rfl #[.int .i64 t671, .slice Ao12 t675.length co12] rfl (by (try simp only [List.map_toArray, List.map_cons, List.map_nil]); first | done | rfl | (simp only [List.length_drop, List.length_take]; rfl)) ?_; (with_reducible refine (bounds_Close.calls k t671 _ _ t675 t678 t679 _ ?side1 ?side2 A5.out).mono ?_); (case side1 => repeat (first | exact (Kd.R_reads' HO677.out).2.2 | (with_reducible refine Kd.C_alloc ?_ _) | (with_reducible refine Kd.C_drewN ?_ _) | (with_reducible refine Kd.C_drew ?_))); (case side2 => exact (Kd.R_reads' HO677.out).2.1); rintro e w13 ⟨v680, rfl, ho0, hb⟩; refine ⟨_, rfl, ?_⟩; have n0_ := Aside0.mk (Kd.R_below (by (with_reducible repeat (first | apply Kd.R_alloc | apply Kd.R_drewN | apply Kd.R_drew)); exact HO674.out) hb); have n1_ := Aside0.mk (Kd.R_below (by (with_reducible repeat (first | apply Kd.R_alloc | apply Kd.R_drewN | apply Kd.R_drew)); exact HO677.out) hb); have n2_ := Aside0.mk (Kd.S_lower ho0 (below_size (by repeat (first | (with_reducible first | exact HB.out | apply below_alloc | apply pw_below_drewN | apply below_drew1) | exact HB.out)))); have n3_ := Aside0.mk (below_step (by repeat (first | (with_reducible first | exact HB.out | apply below_alloc | apply pw_below_drewN | apply below_drew1) | exact HB.out)) hb); clear HO674; clear HO677; clear HB; have HO674 := n0_; have HO677 := n1_; have HO681 := n2_; have HB := n3_; clear n0_ n1_ n2_ n3_; (try clear hb); (try clear hb2); (try clear hk); (try clear hi); (try clear ho0)) | ((with_reducible refine gate_callee (f := 13) rfl ?_); refine goesL_ (some 35) rfl rfl Try.func13 (by kernel_rfl) rfl #[.slice Ao10 t672.length co10] rfl (by (try simp only [List.map_toArray, List.map_cons, List.map_nil]); first | done | rfl | (simp only [List.length_drop, List.length_take]; rfl)) ?_; (with_reducible refine (l14_own.calls k _ _ t672 t682 _ ?side1 ?side2 A6.out).mono ?_); (case side1 => repeat (first | exact (Kd.R_reads' HO674.out).2.2 | (with_reducible refine Kd.C_alloc ?_ _) | (with_reducible refine Kd.C_drewN ?_ _) | (with_reducible refine Kd.C_drew ?_))); (case side2 => exact (Kd.R_reads' HO674.out).2.1); rintro e w14 ⟨v683, rfl, ho0, hb⟩; refine ⟨_, rfl, ?_⟩; have n0_ := Aside0.mk (Kd.R_below (by (with_reducible repeat (first | apply Kd.R_alloc | apply Kd.R_drewN | apply Kd.R_drew)); exact HO674.out) hb); have n1_ := Aside0.mk (Kd.R_elder' (by (with_reducible repeat (first | apply Kd.R_alloc | apply Kd.R_drewN | apply Kd.R_drew)); exact HO677.out) (Kd.R_base ho0) hb); have n2_ := Aside0.mk (Kd.S_below (by (with_reducible repeat (first | apply Kd.S_alloc | apply Kd.S_drewN | apply Kd.S_drew)); exact HO681.out) hb); have n3_ := Aside0.mk (Kd.R_lower (Kd.R_new' ho0 (Kd.R_lt (by (with_reducible repeat (first | apply Kd.R_alloc | apply Kd.R_drewN | apply Kd.R_drew)); exact HO677.out))) (below_size (by repeat (first | (with_reducible first | exact HB.out | apply below_alloc | apply pw_below_drewN | apply below_drew1) | exact HB.out)))); have n4_ := Aside0.mk (below_step (by repeat (first | (with_reducible first | exact HB.out | apply below_alloc | apply pw_below_drewN | apply below_drew1) | exact HB.out)) hb); clear HO674; clear HO677; clear HO681; clear HB; have HO674 := n0_; have HO677 := n1_; have HO681 := n2_; have HO684 := n3_; have HB := n4_; clear n0_ n1_ n2_ n3_ n4_; (try clear hb); (try clear hb2); (try clear hk); (try clear hi); (try clear ho0); obtain ⟨Ao15, co15, eo15⟩ := Kd.R_slice HO684.out; subst eo15) | ((with_reducible refine gate_callee (f := 15) rfl ?_); refine goesL_ (some 36) rfl rfl Try.func15 (by kernel_rfl) rfl #[.int .i64 t671, .slice Ao15 t682.length co15] rfl (by (try simp only [List.map_toArray, List.map_cons, List.map_nil]); first | done | rfl | (simp only [List.length_drop, List.length_take]; rfl)) ?_; (with_reducible refine (bounds_Cycle.calls t671 _ _ t682 t685 t686 _ ?side1 ?side2 A7.out).mono ?_); (case side1 => repeat (first | exact (Kd.R_reads' HO684.out).2.2 | (with_reducible refine Kd.C_alloc ?_ _) | (with_reducible refine Kd.C_drewN ?_ _) | (with_reducible refine Kd.C_drew ?_))); (case side2 => exact (Kd.R_reads' HO684.out).2.1); rintro e w16 ⟨v687, rfl, ho0, hb⟩; refine ⟨_, rfl, ?_⟩; have n0_ := Aside0.mk (Kd.R_below (by (with_reducible repeat (first | apply Kd.R_alloc | apply Kd.R_drewN | apply Kd.R_drew)); exact HO674.out) hb); have n1_ := Aside0.mk (Kd.R_below (by (with_reducible repeat (first | apply Kd.R_alloc | apply Kd.R_drewN | apply Kd.R_drew)); exact HO677.out) hb); have n2_ := Aside0.mk (Kd.S_elder' (by (with_reducible repeat (first | apply Kd.S_alloc | apply Kd.S_drewN | apply Kd.S_drew)); exact HO681.out) (Kd.R_base ho0) hb); have n3_ := Aside0.mk (Kd.R_below (by (with_reducible repeat (first | apply Kd.R_alloc | apply Kd.R_drewN | apply Kd.R_drew)); exact HO684.out) hb); have n4_ := Aside0.mk (Kd.R_lower ho0 (below_size (by repeat (first | (with_reducible first | exact HB.out | apply below_alloc | apply pw_below_drewN | apply below_drew1) | exact HB.out)))); have n5_ := Aside0.mk (below_step (by repeat (first | (with_reducible first | exact HB.out | apply below_alloc | apply pw_below_drewN | apply below_drew1) | exact HB.out)) hb); clear HO674; clear HO677; clear HO681; clear HO684; clear HB; have HO674 := n0_; have HO677 := n1_; have HO681 := n2_; have HO684 := n3_; have HO688 := n4_; have HB := n5_; clear n0_ n1_ n2_ n3_ n4_ n5_; (try clear hb); (try clear hb2); (try clear hk); (try clear hi); (try clear ho0)))
 (try simp only [Act.put, List.setIfInBounds_toArray, List.set_cons_zero, List.set_cons_succ])
 go_cut [50] (fun v50 wc => ∃ (kq : Nat) (x50_7 : Bool), v50 = .bool x50_7 ∧ Aside0 (l14_BoundsContradiction.j0 kq a1 t671 t672 t678 t679 t685 t686 x50_7 = some r) ∧ Aside0 (kq ≤ k) ∧ Aside0 (Kd.R k54 54 wc w.heap.size (fun _ => True) (.slice Ao10 t672.length co10) t672) ∧ Aside0 (Kd.S (Kd.slice 3 (Kd.int .i64)) 22 wc w.heap.size (fun k_ => some k_ ≠ (v687 : Value).ownBlock) v680 t678) ∧ Aside0 (Kd.R (Kd.int .i64) 3 wc w.heap.size (fun _ => True) v687 t685) ∧ Aside0 (Below w.heap.size w wc))
 case first =>
  have H := HC8.out
  clear HC8
  by_cases c17 : ((t679 == 0) != (t686 == 6)) = true
  ·rw [if_pos c17] at H
   have c17b0 : ((t679 == 0) != (t686 == 6)) = true := c17
   (try (have c17b1 : decide ((t679 == 0) = (t686 == 6)) = false := by simpa using c17))
   (try (have c17b2 : ((t679 == 0) == (t686 == 6)) = false := by simpa using c17))
   (try (have c17b3 : ¬ ((t679 == 0) = (t686 == 6)) := by simpa using c17))
   clear c17
   (first | rw [c17b0] | (simp only [i64_w, i32_w]; rw [c17b0]) | skip)
   have H' := Aside0.mk H
   clear H
   go_wp2
   go_meet
   case rel => exact ⟨_, (true), (by first | rfl | (simp; done) | (simp [*]; done)), H', ⟨by first | omega | exact Nat.le_refl _⟩, ⟨by (with_reducible repeat (first | apply Kd.R_alloc | apply Kd.R_drewN | apply Kd.R_drew)); exact HO674.out⟩, ⟨by (with_reducible repeat (first | apply Kd.S_alloc | apply Kd.S_drewN | apply Kd.S_drew)); exact Kd.S_mono HO681.out (fun _ hk => hk.2)⟩, ⟨by (with_reducible repeat (first | apply Kd.R_alloc | apply Kd.R_drewN | apply Kd.R_drew)); exact HO688.out⟩, ⟨by repeat (first | (with_reducible first | exact HB.out | apply below_alloc | apply pw_below_drewN | apply below_drew1) | exact HB.out)⟩⟩
  ·rw [if_neg c17] at H
   have c17b0 : ((t679 == 0) != (t686 == 6)) = false := by simpa using c17
   (try (have c17b1 : decide ((t679 == 0) = (t686 == 6)) = true := by simpa using c17))
   (try (have c17b2 : ((t679 == 0) == (t686 == 6)) = true := by simpa using c17))
   clear c17
   (first | rw [c17b0] | (simp only [i64_w, i32_w]; rw [c17b0]) | skip)
   have H' := Aside0.mk H
   clear H
   go_wp2
   go_meet
   case rel => exact ⟨_, (((t679 == 14) != (t686 == 0))), (by first | rfl | (simp; done) | (simp [*]; done)), H', ⟨by first | omega | exact Nat.le_refl _⟩, ⟨by (with_reducible repeat (first | apply Kd.R_alloc | apply Kd.R_drewN | apply Kd.R_drew)); exact HO674.out⟩, ⟨by (with_reducible repeat (first | apply Kd.S_alloc | apply Kd.S_drewN | apply Kd.S_drew)); exact Kd.S_mono HO681.out (fun _ hk => hk.2)⟩, ⟨by (with_reducible repeat (first | apply Kd.R_alloc | apply Kd.R_drewN | apply Kd.R_drew)); exact HO688.out⟩, ⟨by repeat (first | (with_reducible first | exact HB.out | apply below_alloc | apply pw_below_drewN | apply below_drew1) | exact HB.out)⟩⟩
 case rest =>
  clear HC8
  try clear c1
  try clear p2
  try clear c7
  try clear c9
  try clear c12
  try clear c13
  try clear c15
  try clear c17
  try clear c17b0
  try clear c17b1
  try clear c17b2
  obtain ⟨kq, x50_7, rfl, HA, HJ7, HO_6, HO_7, HO_9, HB⟩ := hcut
  cases kq with
  | zero => exact absurd HA.out (by simp [l14_BoundsContradiction.j0])
  | succ kj7 =>
   have H := HA.out
   clear HA
   simp only [l14_BoundsContradiction.j0] at H
   by_cases c18 : x50_7 = true
   ·subst c18
    have H1 : (some false) = some r := by rw [if_pos rfl] at H; exact H
    clear H
    have H := H1
    clear H1
    exact absurd H (by rw [HT.out]; simp)
   ·replace c18 := Bool.eq_false_iff.mpr c18
    subst c18
    have H1 : ((r01_Around.f a1 (wrap64 ((t672.length : Int) + 1))).bind fun t689 => (if 0 ≤ t689 then (if t689 ≤ (t672.length : Int) then ((some (t672.drop (t689 : Int).toNat : List (S54))).bind fun y690 => (if ([] : List (S54)).length + y690.length < 5864062014805 then ((some (([] : List (S54)) ++ y690 : List (S54))).bind fun y694 => ((some (t672.take (t689 : Int).toNat : List (S54))).bind fun y697 => (if y694.length + y697.length < 5864062014805 then ((l14_own.f kj7 (y694 ++ y697)).bind fun t704 => ((bounds_Close.f kj7 t671 t704).bind fun bt707 => (if bt707.2 = t679 then ((r14_SameTables.f kj7 bt707.1 t678).bind fun t711 => (l14_BoundsContradiction.j1 kj7 t671 t672 t685 t686 (!t711))) else (l14_BoundsContradiction.j1 kj7 t671 t672 t685 t686 true)))) else (none)))) else (none))) else (none)) else (none))) = some r := by rw [if_neg (show ¬ (false = true) by decide)] at H; exact H
    clear H
    have H := H1
    clear H1
    replace H := Option.bind_eq_some_iff.mp H
    obtain ⟨t689, A190, H⟩ := H
    replace H : (if 0 ≤ t689 then (if t689 ≤ (t672.length : Int) then ((some (t672.drop (t689 : Int).toNat : List (S54))).bind fun y690 => (if ([] : List (S54)).length + y690.length < 5864062014805 then ((some (([] : List (S54)) ++ y690 : List (S54))).bind fun y694 => ((some (t672.take (t689 : Int).toNat : List (S54))).bind fun y697 => (if y694.length + y697.length < 5864062014805 then ((l14_own.f kj7 (y694 ++ y697)).bind fun t704 => ((bounds_Close.f kj7 t671 t704).bind fun bt707 => (if bt707.2 = t679 then ((r14_SameTables.f kj7 bt707.1 t678).bind fun t711 => (l14_BoundsContradiction.j1 kj7 t671 t672 t685 t686 (!t711))) else (l14_BoundsContradiction.j1 kj7 t671 t672 t685 t686 true)))) else (none)))) else (none))) else (none)) else (none)) = some r := H
    have A19 := Aside0.mk A190
    clear A190
    by_cases c20 : 0 ≤ t689
    ·rw [if_pos c20] at H
     have c20b0 := eq_true c20
     have c20b1 : decide (0 ≤ t689) = true := decide_eq_true c20
     clear c20
     by_cases c21 : t689 ≤ (t672.length : Int)
     ·rw [if_pos c21] at H
      have c21b0 := eq_true c21
      have c21b1 : decide (t689 ≤ (t672.length : Int)) = true := decide_eq_true c21
      clear c21
      obtain ⟨y690, hy690⟩ : ∃ y_ : List (S54), y_ = (t672.drop (t689 : Int).toNat) := ⟨_, rfl⟩
      replace H : (if ([] : List (S54)).length + y690.length < 5864062014805 then ((some (([] : List (S54)) ++ y690 : List (S54))).bind fun y694 => ((some (t672.take (t689 : Int).toNat : List (S54))).bind fun y697 => (if y694.length + y697.length < 5864062014805 then ((l14_own.f kj7 (y694 ++ y697)).bind fun t704 => ((bounds_Close.f kj7 t671 t704).bind fun bt707 => (if bt707.2 = t679 then ((r14_SameTables.f kj7 bt707.1 t678).bind fun t711 => (l14_BoundsContradiction.j1 kj7 t671 t672 t685 t686 (!t711))) else (l14_BoundsContradiction.j1 kj7 t671 t672 t685 t686 true)))) else (none)))) else (none)) = some r := by first | (rw [hy690]; with_reducible exact H) | (have H2_ := (Option.bind_some _ _).symm.trans H; rw [hy690]; with_reducible exact H2_) | (have H2_ := (Option.bind_some _ _).symm.trans H; with_reducible exact H2_) | with_reducible exact H | (rw [hy690]; exact H) | exact H
      have Ny690 := Aside0.mk hy690
      clear hy690
      by_cases c22 : ([] : List (S54)).length + y690.length < 5864062014805
      ·rw [if_pos c22] at H
       have LMc22 := Aside0.mk c22
       clear c22
       obtain ⟨y694, hy694⟩ : ∃ y_ : List (S54), y_ = (([] : List (S54)) ++ y690) := ⟨_, rfl⟩
       replace H : ((some (t672.take (t689 : Int).toNat : List (S54))).bind fun y697 => (if y694.length + y697.length < 5864062014805 then ((l14_own.f kj7 (y694 ++ y697)).bind fun t704 => ((bounds_Close.f kj7 t671 t704).bind fun bt707 => (if bt707.2 = t679 then ((r14_SameTables.f kj7 bt707.1 t678).bind fun t711 => (l14_BoundsContradiction.j1 kj7 t671 t672 t685 t686 (!t711))) else (l14_BoundsContradiction.j1 kj7 t671 t672 t685 t686 true)))) else (none))) = some r := by first | (rw [hy694]; with_reducible exact H) | (have H2_ := (Option.bind_some _ _).symm.trans H; rw [hy694]; with_reducible exact H2_) | (have H2_ := (Option.bind_some _ _).symm.trans H; with_reducible exact H2_) | with_reducible exact H | (rw [hy694]; exact H) | exact H
       have Ny694 := Aside0.mk hy694
       clear hy694
       have c23b0 := eq_true (of_decide_eq_true (by first | (with_reducible assumption) | assumption) : 0 ≤ t689)
       have c24b0 := eq_true (of_decide_eq_true (by first | (with_reducible assumption) | assumption) : t689 ≤ (t672.length : Int))
       obtain ⟨y697, hy697⟩ : ∃ y_ : List (S54), y_ = (t672.take (t689 : Int).toNat) := ⟨_, rfl⟩
       replace H : (if y694.length + y697.length < 5864062014805 then ((l14_own.f kj7 (y694 ++ y697)).bind fun t704 => ((bounds_Close.f kj7 t671 t704).bind fun bt707 => (if bt707.2 = t679 then ((r14_SameTables.f kj7 bt707.1 t678).bind fun t711 => (l14_BoundsContradiction.j1 kj7 t671 t672 t685 t686 (!t711))) else (l14_BoundsContradiction.j1 kj7 t671 t672 t685 t686 true)))) else (none)) = some r := by first | (rw [hy697]; with_reducible exact H) | (have H2_ := (Option.bind_some _ _).symm.trans H; rw [hy697]; with_reducible exact H2_) | (have H2_ := (Option.bind_some _ _).symm.trans H; with_reducible exact H2_) | with_reducible exact H | (rw [hy697]; exact H) | exact H
       have Ny697 := Aside0.mk hy697
       clear hy697
       by_cases c25 : y694.length + y697.length < 5864062014805
       ·rw [if_pos c25] at H
        have LMc25 := Aside0.mk c25
        clear c25
        obtain ⟨y701, hy701⟩ : ∃ y_ : List (S54), y_ = (y694 ++ y697) := ⟨_, rfl⟩
        replace H : ((l14_own.f kj7 y701).bind fun t704 => ((bounds_Close.f kj7 t671 t704).bind fun bt707 => (if bt707.2 = t679 then ((r14_SameTables.f kj7 bt707.1 t678).bind fun t711 => (l14_BoundsContradiction.j1 kj7 t671 t672 t685 t686 (!t711))) else (l14_BoundsContradiction.j1 kj7 t671 t672 t685 t686 true)))) = some r := by first | (rw [hy701]; with_reducible exact H) | (have H2_ := (Option.bind_some _ _).symm.trans H; rw [hy701]; with_reducible exact H2_) | (have H2_ := (Option.bind_some _ _).symm.trans H; with_reducible exact H2_) | with_reducible exact H | (rw [hy701]; exact H) | exact H
        have Ny701 := Aside0.mk hy701
        clear hy701
        replace H := Option.bind_eq_some_iff.mp H
        obtain ⟨t704, A260, H⟩ := H
        replace H : ((bounds_Close.f kj7 t671 t704).bind fun bt707 => (if bt707.2 = t679 then ((r14_SameTables.f kj7 bt707.1 t678).bind fun t711 => (l14_BoundsContradiction.j1 kj7 t671 t672 t685 t686 (!t711))) else (l14_BoundsContradiction.j1 kj7 t671 t672 t685 t686 true))) = some r := H
        have A26 := Aside0.mk A260
        clear A260
        replace H := Option.bind_eq_some_iff.mp H
        obtain ⟨⟨t707, t708⟩, A270, H⟩ := H
        replace H : (if t708 = t679 then ((r14_SameTables.f kj7 t707 t678).bind fun t711 => (l14_BoundsContradiction.j1 kj7 t671 t672 t685 t686 (!t711))) else (l14_BoundsContradiction.j1 kj7 t671 t672 t685 t686 true)) = some r := H
        have A27 := Aside0.mk A270
        clear A270
        have HC28 := Aside0.mk H
        clear H
        try go_wp2_with (first | ((with_reducible refine gate_callee (f := 11) rfl ?_); refine goesL_ (some 55) rfl rfl Try.func11 (by kernel_rfl) rfl #[.int .i64 a1, .int .i64 (wrap64 ((t672.length : Int) + 1))] rfl (by (try simp only [List.map_toArray, List.map_cons, List.map_nil]); first | done | rfl | (simp only [List.length_drop, List.length_take]; rfl)) ?_; (with_reducible refine (r01_Around.calls a1 (wrap64 ((t672.length : Int) + 1)) t689 _ A19.out).mono ?_); rintro e w' ⟨rfl, ⟨nd, rfl⟩⟩; refine ⟨_, rfl, ?_⟩))
        (try (rw [drewN_self wc]; generalize hq_ : World.drewN wc _ = wc; have n0_ : Aside0 (Kd.R k54 54 wc w.heap.size (fun _ => True) (.slice Ao10 t672.length co10) t672) := ⟨by rw [← hq_]; exact (by (with_reducible repeat (first | apply Kd.R_alloc | apply Kd.R_drewN | apply Kd.R_drew)); exact HO_6.out)⟩; have n1_ : Aside0 (Kd.S (Kd.slice 3 (Kd.int .i64)) 22 wc w.heap.size (fun k_ => some k_ ≠ (v687 : Value).ownBlock) v680 t678) := ⟨by rw [← hq_]; exact (by (with_reducible repeat (first | apply Kd.S_alloc | apply Kd.S_drewN | apply Kd.S_drew)); exact HO_7.out)⟩; have n2_ : Aside0 (Kd.R (Kd.int .i64) 3 wc w.heap.size (fun _ => True) v687 t685) := ⟨by rw [← hq_]; exact (by (with_reducible repeat (first | apply Kd.R_alloc | apply Kd.R_drewN | apply Kd.R_drew)); exact HO_9.out)⟩; have n3_ : Aside0 (Below w.heap.size w wc) := ⟨by rw [← hq_]; exact (by repeat (first | (with_reducible first | exact HB.out | apply below_alloc | apply pw_below_drewN | apply below_drew1) | exact HB.out))⟩; clear HO_6 HO_7 HO_9 HB hq_; have HO_6 := n0_; have HO_7 := n1_; have HO_9 := n2_; have HB := n3_; clear n0_ n1_ n2_ n3_))
        have n0_ := Aside0.mk (Kd.R_drew HO_6.out)
        have n1_ := Aside0.mk (Kd.S_drew HO_7.out)
        have n2_ := Aside0.mk (Kd.R_drew HO_9.out)
        have n3_ := Aside0.mk (below_drew1 HB.out)
        clear HO_6
        clear HO_7
        clear HO_9
        clear HB
        have HO_6 := n0_
        have HO_7 := n1_
        have HO_9 := n2_
        have HB := n3_
        clear n0_ n1_ n2_ n3_
        have q30 : (t689 : Int) ≤ ((t672.length : Int) : Int) := of_decide_eq_true (by first | (with_reducible assumption) | assumption)
        obtain ⟨i030, hi030, _, hsz30, _⟩ := info_parts info54
        have hroom30 : t672.length ≤ co10 := (Kd.R_reads' HO_6.out).2.1
        have hC30 : Kd.C k54 _ Ao10 t672.length t672 := (Kd.R_reads' HO_6.out).2.2
        have q030 : (0 : Int) ≤ (t689 : Int) := of_decide_eq_true (by first | (with_reducible assumption) | assumption)
        have hcut30 := cut_from (P := Try.prog) 23 54 .i64 Try.underlying23 hi030 3 hsz30 Ao10 t672.length co10 t689 q030 q30
        have hr30 := Kd.C_drop (m := (t689 : Int).toNat) (c := co10) hC30 (by omega) hroom30
        obtain ⟨A30, hA30⟩ : ∃ A1, A1 = (if co10 = (t689 : Int).toNat then Ao10 else (Ao10 : Option Addr).map (·.add ((t689 : Int).toNat * 3))) := ⟨_, rfl⟩
        obtain ⟨c30, hc30⟩ : ∃ c1, c1 = co10 - (t689 : Int).toNat := ⟨_, rfl⟩
        have hy30 : y690.length = t672.length - (t689 : Int).toNat := (by rw [Ny690.out, List.length_drop] <;> omega)
        rw [show (t672).drop (t689 : Int).toNat = y690 from Ny690.out.symm] at hr30
        replace hr30 : Kd.C k54 _ A30 y690.length y690 := (by rw [hA30]; exact hr30)
        rw [← hy30, ← hA30, ← hc30] at hcut30
        have HR693 := Aside0.mk hr30
        have HC693 := Aside0.mk (show y690.length ≤ c30 from by rw [hy30, hc30]; exact Nat.sub_le_sub_right hroom30 _)
        clear hr30 hC30 hroom30 hi030 hsz30 hc30
        have KY30 := Aside0.mk hy30
        have KA30 := Aside0.mk hA30
        clear hy30 hA30
        have KL30 := Aside0.mk (show (t689 : Int).toNat ≤ t672.length from by omega)
        replace q30 := eq_true q30
        have q31 : (t689 : Int) ≤ ((t672.length : Int) : Int) := of_decide_eq_true (by first | (with_reducible assumption) | assumption)
        obtain ⟨i031, hi031, _, hsz31, _⟩ := info_parts info54
        have hroom31 : t672.length ≤ co10 := (Kd.R_reads' HO_6.out).2.1
        have hC31 : Kd.C k54 _ Ao10 t672.length t672 := (Kd.R_reads' HO_6.out).2.2
        have hcut31 := cut_to (P := Try.prog) 23 54 .i64 Try.underlying23 hi031 Ao10 t672.length co10 t689 (of_decide_eq_true (by first | (with_reducible assumption) | assumption)) q31 hroom31
        have hr31 := Kd.C_take (m := (t689 : Int).toNat) hC31 (by omega)
        have hy31 : y697.length = (t689 : Int).toNat := (by rw [Ny697.out, List.length_take]; omega)
        rw [← Ny697.out] at hr31
        rw [← hy31] at hcut31
        have HR700 := Aside0.mk hr31
        have HC700 := Aside0.mk (show y697.length ≤ co10 from by omega)
        clear hr31 hC31 hroom31 hi031 hsz31
        have KY31 := Aside0.mk hy31
        clear hy31
        have KL31 := Aside0.mk (show (t689 : Int).toNat ≤ t672.length from by omega)
        replace q31 := eq_true q31
        refine start_ (n := 10) (S := fun w' => True) (ds := []) #[false, false, false, false, false, false, false, false, false, false] (by kernel_rfl) rfl rfl trivial (fun hHeld => ?_); refine with_tabW l14_BoundsContradiction.tab8 l14_BoundsContradiction.bits8 (fun HT_ HW_ => ?_)
        generalize wc.drew = w29 at HO_6 HO_7 HO_9 HB HR693 HR700 hHeld ⊢
        refine pS_ 0 (some 56) rfl rfl HT_.out (by kernel_rfl) ?_ (fun _ _ _ h => h) (by rfl) ?_ ?_ ?_ ?_
        rotate_left
        ·intro w'
         go_simp
         with_reducible rfl
        rotate_left
        ·simp only [Act.put, List.setIfInBounds_toArray, List.set_cons_zero, List.set_cons_succ, i64_w, i32_w]
         rfl
        refine pS_ 1 (some 57) rfl rfl HT_.out (by kernel_rfl) ?_ (fun _ _ _ h => h) (by rfl) ?_ ?_ ?_ ?_
        rotate_left
        ·intro w'
         go_simp
         with_reducible rfl
        rotate_left
        ·simp only [Act.put, List.setIfInBounds_toArray, List.set_cons_zero, List.set_cons_succ, i64_w, i32_w]
         rfl
        refine pS_ 2 (some 58) rfl rfl HT_.out (by kernel_rfl) ?_ (fun _ _ _ h => h) (by rfl) ?_ ?_ ?_ ?_
        rotate_left
        ·intro w'
         go_simp
         with_reducible rfl
        rotate_left
        ·simp only [Act.put, List.setIfInBounds_toArray, List.set_cons_zero, List.set_cons_succ, i64_w, i32_w]
         rfl
        refine pS_ 3 (some 59) rfl rfl HT_.out (by kernel_rfl) ?_ (fun _ _ _ h => h) (by rfl) ?_ ?_ ?_ ?_
        rotate_left
        ·intro w'
         go_simp
         with_reducible rfl
        rotate_left
        ·simp only [Act.put, List.setIfInBounds_toArray, List.set_cons_zero, List.set_cons_succ, i64_w, i32_w]
         rfl
        refine pS_ 5 (some 61) rfl rfl HT_.out (by kernel_rfl) ?_ (fun _ _ _ h => h) (by rfl) ?_ ?_ ?_ ?_
        rotate_left
        ·intro w'
         go_simp
         with_reducible rfl
        rotate_left
        ·simp only [Act.put, List.setIfInBounds_toArray, List.set_cons_zero, List.set_cons_succ, i64_w, i32_w]
         rfl
        refine pS_ 6 (some 62) rfl rfl HT_.out (by kernel_rfl) ?_ (fun _ _ _ h => h) (by rfl) ?_ ?_ ?_ ?_
        rotate_left
        ·intro w'
         go_simp
         with_reducible rfl
        rotate_left
        ·simp only [Act.put, List.setIfInBounds_toArray, List.set_cons_zero, List.set_cons_succ, i64_w, i32_w]
         rfl
        refine pS_ 7 (some 63) rfl rfl HT_.out (by kernel_rfl) ?_ (fun _ _ _ h => h) (by rfl) ?_ ?_ ?_ ?_
        rotate_left
        ·intro w'
         go_simp
         with_reducible rfl
        rotate_left
        ·simp only [Act.put, List.setIfInBounds_toArray, List.set_cons_zero, List.set_cons_succ, i64_w, i32_w]
         rfl
        refine one_ (i := 4) (N := some 60) #[true, true, true, true, true, true, true, true, false, false] rfl rfl (one_of HT_.out (by kernel_rfl)) (by decide) (fun K hK => ?_)
        refine Kd.R_append_rows_step k54 (w0 := w) w.heap.size (by rfl) (.tmp 56) (.tmp 59) 23 54 (.agg #[(.int .i64 0), (.int .i64 0), (.int .i64 0)]) 24 rfl Try.underlying23 info54 rfl (by decide) (by omega) (.slice none 0 0) ([] : List (S54)) y690 _ _ _ (fun k_ => some k_ ≠ (.slice Ao10 t672.length co10 : Value).ownBlock) (fun _ => False) rfl rfl ?aO ?aR (fun _ _ h => h) (fun _ h => h.elim) ?aF ?aB ?aS ?aL ?_
        (case aR => repeat (first | exact (by repeat (first | (with_reducible exact HR693.out) | (with_reducible refine Kd.C_alloc ?_ _) | (with_reducible refine Kd.C_drewN ?_ _) | (with_reducible refine Kd.C_drew ?_) | exact HR693.out)) | (with_reducible refine Kd.C_alloc ?_ _) | (with_reducible refine Kd.C_drewN ?_ _) | (with_reducible refine Kd.C_drew ?_)))
        (case aB => exact (by repeat (first | (with_reducible first | exact HB.out | apply below_alloc | apply pw_below_drewN | apply below_drew1) | exact HB.out)))
        (case aF => exact (fun k_ hk => Kd.fresh' (Kd.R_lt (by (with_reducible repeat (first | apply Kd.R_alloc | apply Kd.R_drewN | apply Kd.R_drew)); exact HO_6.out)) k_ hk))
        (case aO => exact ((Kd.R_nil _ _ _ _ (fun k_ => some k_ ≠ (.slice Ao10 t672.length co10 : Value).ownBlock))))
        (case aS => exact (below_size (by repeat (first | (with_reducible first | exact HB.out | apply below_alloc | apply pw_below_drewN | apply below_drew1) | exact HB.out))))
        (case aL => have := LMc22.out; omega)
        intro v695 w32 ho hb hg hat
        rw [← Ny694.out] at ho
        have n0_ := Aside0.mk (Kd.R_after (Kd.R_apart_nil (by (with_reducible repeat (first | apply Kd.R_alloc | apply Kd.R_drewN | apply Kd.R_drew)); exact HO_6.out)) hg hat)
        have n1_ := Aside0.mk (Kd.S_grown (by (with_reducible repeat (first | apply Kd.S_alloc | apply Kd.S_drewN | apply Kd.S_drew)); exact HO_7.out) hg (fun _ _ => by simp [Value.ownBlock]))
        have n2_ := Aside0.mk (Kd.R_grown (by (with_reducible repeat (first | apply Kd.R_alloc | apply Kd.R_drewN | apply Kd.R_drew)); exact HO_9.out) hg (fun _ _ => by simp [Value.ownBlock]))
        have n3_ := Aside0.mk (hb)
        have n4_ := Aside0.mk ((show Kd.C k54 w32 A30 y690.length y690 from by rw [Ny690.out, KA30.out]; exact Kd.C_drop (m := (t689 : Int).toNat) (c := co10) ((Kd.R_reads' (Kd.R_after (Kd.R_apart_nil (by (with_reducible repeat (first | apply Kd.R_alloc | apply Kd.R_drewN | apply Kd.R_drew)); exact HO_6.out)) hg hat)).2.2) KL30.out ((Kd.R_reads' (Kd.R_after (Kd.R_apart_nil (by (with_reducible repeat (first | apply Kd.R_alloc | apply Kd.R_drewN | apply Kd.R_drew)); exact HO_6.out)) hg hat)).2.1)))
        have n5_ := Aside0.mk ((show Kd.C k54 w32 Ao10 y697.length y697 from by rw [Ny697.out]; exact Kd.C_take (m := (t689 : Int).toNat) ((Kd.R_reads' (Kd.R_after (Kd.R_apart_nil (by (with_reducible repeat (first | apply Kd.R_alloc | apply Kd.R_drewN | apply Kd.R_drew)); exact HO_6.out)) hg hat)).2.2) KL31.out))
        have n6_ := Aside0.mk (ho)
        clear HO_6
        clear HO_7
        clear HO_9
        clear HB
        clear HR693
        clear HR700
        have HO_6 := n0_
        have HO_7 := n1_
        have HO_9 := n2_
        have HB := n3_
        have HR693 := n4_
        have HR700 := n5_
        have HO696 := n6_
        clear n0_ n1_ n2_ n3_ n4_ n5_ n6_
        clear ho hb hg hat
        refine hK.out _ _ trivial (fun hHeld => ?_)
        clear hK K
        refine norm_ (a' := ?_) ?_ ?_
        rotate_left
        ·show Act.put _ (some 60) _ = _
         simp only [Act.put, List.setIfInBounds_toArray, List.set_cons_zero, List.set_cons_succ, i64_w, i32_w]
         rfl
        refine one_ (i := 8) (N := some 64) #[true, true, true, true, true, true, true, true, true, false] rfl rfl (one_of HT_.out (by kernel_rfl)) (by decide) (fun K hK => ?_)
        refine Kd.R_append_rows_step k54 (w0 := w) w.heap.size (by rfl) (.tmp 60) (.tmp 63) 23 54 (.agg #[(.int .i64 0), (.int .i64 0), (.int .i64 0)]) 24 rfl Try.underlying23 info54 rfl (by decide) (by omega) v695 y694 y697 _ _ _ (fun k_ => some k_ ≠ (.slice Ao10 t672.length co10 : Value).ownBlock) (fun _ => False) rfl rfl ?aO ?aR (fun _ _ h => h) (fun _ h => h.elim) ?aF ?aB ?aS ?aL ?_
        (case aR => repeat (first | exact (by repeat (first | (with_reducible exact HR700.out) | (with_reducible refine Kd.C_alloc ?_ _) | (with_reducible refine Kd.C_drewN ?_ _) | (with_reducible refine Kd.C_drew ?_) | exact HR700.out)) | (with_reducible refine Kd.C_alloc ?_ _) | (with_reducible refine Kd.C_drewN ?_ _) | (with_reducible refine Kd.C_drew ?_)))
        (case aB => exact (by repeat (first | (with_reducible first | exact HB.out | apply below_alloc | apply pw_below_drewN | apply below_drew1) | exact HB.out)))
        (case aF => exact (fun k_ hk => Kd.fresh' (Kd.R_lt (by (with_reducible repeat (first | apply Kd.R_alloc | apply Kd.R_drewN | apply Kd.R_drew)); exact HO_6.out)) k_ hk))
        (case aO => exact (by (with_reducible repeat (first | apply Kd.R_alloc | apply Kd.R_drewN | apply Kd.R_drew)); exact HO696.out))
        (case aS => exact (below_size (by repeat (first | (with_reducible first | exact HB.out | apply below_alloc | apply pw_below_drewN | apply below_drew1) | exact HB.out))))
        (case aL => have := LMc25.out; omega)
        intro v702 w33 ho hb hg hat
        rw [← Ny701.out] at ho
        have n0_ := Aside0.mk (Kd.R_after (ok := (fun _ => True)) (by (with_reducible repeat (first | apply Kd.R_alloc | apply Kd.R_drewN | apply Kd.R_drew)); exact HO_6.out) hg hat)
        have n1_ := Aside0.mk (Kd.S_over' (by (with_reducible repeat (first | apply Kd.S_alloc | apply Kd.S_drewN | apply Kd.S_drew)); exact HO_7.out) (Kd.R_typed (by (with_reducible repeat (first | apply Kd.R_alloc | apply Kd.R_drewN | apply Kd.R_drew)); exact HO696.out)) (by decide) hg)
        have n2_ := Aside0.mk (Kd.R_over' (by (with_reducible repeat (first | apply Kd.R_alloc | apply Kd.R_drewN | apply Kd.R_drew)); exact HO_9.out) (Kd.R_typed (by (with_reducible repeat (first | apply Kd.R_alloc | apply Kd.R_drewN | apply Kd.R_drew)); exact HO696.out)) (by decide) hg)
        have n3_ := Aside0.mk (hb)
        have n4_ := Aside0.mk ((show Kd.C k54 w33 A30 y690.length y690 from by rw [Ny690.out, KA30.out]; exact Kd.C_drop (m := (t689 : Int).toNat) (c := co10) ((Kd.R_reads' (Kd.R_after (ok := (fun _ => True)) (by (with_reducible repeat (first | apply Kd.R_alloc | apply Kd.R_drewN | apply Kd.R_drew)); exact HO_6.out) hg hat)).2.2) KL30.out ((Kd.R_reads' (Kd.R_after (ok := (fun _ => True)) (by (with_reducible repeat (first | apply Kd.R_alloc | apply Kd.R_drewN | apply Kd.R_drew)); exact HO_6.out) hg hat)).2.1)))
        have n5_ := Aside0.mk ((show Kd.C k54 w33 Ao10 y697.length y697 from by rw [Ny697.out]; exact Kd.C_take (m := (t689 : Int).toNat) ((Kd.R_reads' (Kd.R_after (ok := (fun _ => True)) (by (with_reducible repeat (first | apply Kd.R_alloc | apply Kd.R_drewN | apply Kd.R_drew)); exact HO_6.out) hg hat)).2.2) KL31.out))
        have n6_ := Aside0.mk (ho)
        clear HO_6
        clear HO_7
        clear HO_9
        clear HB
        clear HR693
        clear HR700
        clear HO696
        have HO_6 := n0_
        have HO_7 := n1_
        have HO_9 := n2_
        have HB := n3_
        have HR693 := n4_
        have HR700 := n5_
        have HO703 := n6_
        clear n0_ n1_ n2_ n3_ n4_ n5_ n6_
        clear ho hb hg hat
        refine hK.out _ _ trivial (fun hHeld => ?_)
        clear hK K
        refine norm_ (a' := ?_) ?_ ?_
        rotate_left
        ·show Act.put _ (some 64) _ = _
         simp only [Act.put, List.setIfInBounds_toArray, List.set_cons_zero, List.set_cons_succ, i64_w, i32_w]
         rfl
        refine pS_ 9 (some 12) rfl rfl HT_.out (by kernel_rfl) ?_ (fun _ _ _ h => h) (by rfl) ?_ ?_ ?_ ?_
        rotate_left
        ·intro w'
         go_simp
         with_reducible rfl
        rotate_left
        ·simp only [Act.put, List.setIfInBounds_toArray, List.set_cons_zero, List.set_cons_succ, i64_w, i32_w]
         rfl
        refine done_ (done_of HT_.out (by kernel_rfl)) ?_
        obtain ⟨Ao34, co34, eo34⟩ := Kd.R_slice HO703.out
        subst eo34
        go_upto_region 10 with (first | ((with_reducible refine gate_callee (f := 13) rfl ?_); refine goesL_ (some 68) rfl rfl Try.func13 (by kernel_rfl) rfl #[.slice Ao34 y701.length co34] rfl (by (try simp only [List.map_toArray, List.map_cons, List.map_nil]); first | done | rfl | (simp only [List.length_drop, List.length_take]; rfl)) ?_; (with_reducible refine (l14_own.calls kj7 _ _ y701 t704 _ ?side1 ?side2 A26.out).mono ?_); (case side1 => repeat (first | exact (Kd.R_reads' HO703.out).2.2 | (with_reducible refine Kd.C_alloc ?_ _) | (with_reducible refine Kd.C_drewN ?_ _) | (with_reducible refine Kd.C_drew ?_))); (case side2 => exact (Kd.R_reads' HO703.out).2.1); rintro e w35 ⟨v705, rfl, ho0, hb⟩; refine ⟨_, rfl, ?_⟩; have n0_ := Aside0.mk (Kd.R_below (by (with_reducible repeat (first | apply Kd.R_alloc | apply Kd.R_drewN | apply Kd.R_drew)); exact HO_6.out) hb); have n1_ := Aside0.mk (Kd.S_below (by (with_reducible repeat (first | apply Kd.S_alloc | apply Kd.S_drewN | apply Kd.S_drew)); exact HO_7.out) hb); have n2_ := Aside0.mk (Kd.R_below (by (with_reducible repeat (first | apply Kd.R_alloc | apply Kd.R_drewN | apply Kd.R_drew)); exact HO_9.out) hb); have n3_ := Aside0.mk (Kd.R_below (by (with_reducible repeat (first | apply Kd.R_alloc | apply Kd.R_drewN | apply Kd.R_drew)); exact HO703.out) hb); have n4_ := Aside0.mk (Kd.R_lower ho0 (below_size (by repeat (first | (with_reducible first | exact HB.out | apply below_alloc | apply pw_below_drewN | apply below_drew1) | exact HB.out)))); have n5_ := Aside0.mk (Kd.C_below (by repeat (first | (with_reducible exact HR693.out) | (with_reducible refine Kd.C_alloc ?_ _) | (with_reducible refine Kd.C_drewN ?_ _) | (with_reducible refine Kd.C_drew ?_) | exact HR693.out)) hb); have n6_ := Aside0.mk (Kd.C_below (by repeat (first | (with_reducible exact HR700.out) | (with_reducible refine Kd.C_alloc ?_ _) | (with_reducible refine Kd.C_drewN ?_ _) | (with_reducible refine Kd.C_drew ?_) | exact HR700.out)) hb); have n7_ := Aside0.mk (below_step (by repeat (first | (with_reducible first | exact HB.out | apply below_alloc | apply pw_below_drewN | apply below_drew1) | exact HB.out)) hb); clear HO_6; clear HO_7; clear HO_9; clear HO703; clear HR693; clear HR700; clear HB; have HO_6 := n0_; have HO_7 := n1_; have HO_9 := n2_; have HO703 := n3_; have HO706 := n4_; have HR693 := n5_; have HR700 := n6_; have HB := n7_; clear n0_ n1_ n2_ n3_ n4_ n5_ n6_ n7_; (try clear hb); (try clear hb2); (try clear hk); (try clear hi); (try clear ho0); obtain ⟨Ao36, co36, eo36⟩ := Kd.R_slice HO706.out; subst eo36) | ((with_reducible refine gate_callee (f := 12) rfl ?_); refine goesL_ (some 69) rfl rfl Try.func12 (by kernel_rfl) rfl #[.int .i64 t671, .slice Ao36 t704.length co36] rfl (by (try simp only [List.map_toArray, List.map_cons, List.map_nil]); first | done | rfl | (simp only [List.length_drop, List.length_take]; rfl)) ?_; (with_reducible refine (bounds_Close.calls kj7 t671 _ _ t704 t707 t708 _ ?side1 ?side2 A27.out).mono ?_); (case side1 => repeat (first | exact (Kd.R_reads' HO706.out).2.2 | (with_reducible refine Kd.C_alloc ?_ _) | (with_reducible refine Kd.C_drewN ?_ _) | (with_reducible refine Kd.C_drew ?_))); (case side2 => exact (Kd.R_reads' HO706.out).2.1); rintro e w37 ⟨v709, rfl, ho0, hb⟩; refine ⟨_, rfl, ?_⟩; have n0_ := Aside0.mk (Kd.R_below (by (with_reducible repeat (first | apply Kd.R_alloc | apply Kd.R_drewN | apply Kd.R_drew)); exact HO_6.out) hb); have n1_ := Aside0.mk (Kd.S_elder' (by (with_reducible repeat (first | apply Kd.S_alloc | apply Kd.S_drewN | apply Kd.S_drew)); exact HO_7.out) (Kd.S_base ho0) hb); have n2_ := Aside0.mk (Kd.R_below (by (with_reducible repeat (first | apply Kd.R_alloc | apply Kd.R_drewN | apply Kd.R_drew)); exact HO_9.out) hb); have n3_ := Aside0.mk (Kd.R_below (by (with_reducible repeat (first | apply Kd.R_alloc | apply Kd.R_drewN | apply Kd.R_drew)); exact HO703.out) hb); have n4_ := Aside0.mk (Kd.R_below (by (with_reducible repeat (first | apply Kd.R_alloc | apply Kd.R_drewN | apply Kd.R_drew)); exact HO706.out) hb); have n5_ := Aside0.mk (Kd.S_lower (Kd.S_new' (Kd.S_new' ho0 (Kd.S_lt (by (with_reducible repeat (first | apply Kd.S_alloc | apply Kd.S_drewN | apply Kd.S_drew)); exact HO_7.out))) (Kd.R_lt (by (with_reducible repeat (first | apply Kd.R_alloc | apply Kd.R_drewN | apply Kd.R_drew)); exact HO_9.out))) (below_size (by repeat (first | (with_reducible first | exact HB.out | apply below_alloc | apply pw_below_drewN | apply below_drew1) | exact HB.out)))); have n6_ := Aside0.mk (Kd.C_below (by repeat (first | (with_reducible exact HR693.out) | (with_reducible refine Kd.C_alloc ?_ _) | (with_reducible refine Kd.C_drewN ?_ _) | (with_reducible refine Kd.C_drew ?_) | exact HR693.out)) hb); have n7_ := Aside0.mk (Kd.C_below (by repeat (first | (with_reducible exact HR700.out) | (with_reducible refine Kd.C_alloc ?_ _) | (with_reducible refine Kd.C_drewN ?_ _) | (with_reducible refine Kd.C_drew ?_) | exact HR700.out)) hb); have n8_ := Aside0.mk (below_step (by repeat (first | (with_reducible first | exact HB.out | apply below_alloc | apply pw_below_drewN | apply below_drew1) | exact HB.out)) hb); clear HO_6; clear HO_7; clear HO_9; clear HO703; clear HO706; clear HR693; clear HR700; clear HB; have HO_6 := n0_; have HO_7 := n1_; have HO_9 := n2_; have HO703 := n3_; have HO706 := n4_; have HO710 := n5_; have HR693 := n6_; have HR700 := n7_; have HB := n8_; clear n0_ n1_ n2_ n3_ n4_ n5_ n6_ n7_ n8_; (try clear hb); (try clear hb2); (try clear hk); (try clear hi); (try clear ho0)))
        (try simp only [Act.put, List.setIfInBounds_toArray, List.set_cons_zero, List.set_cons_succ])
        clear HR693 HR700
        go_cut [80] (fun v80 wc => ∃ (kq : Nat) (x80_27 : Bool), v80 = .bool x80_27 ∧ Aside0 (l14_BoundsContradiction.j1 kq t671 t672 t685 t686 x80_27 = some r) ∧ Aside0 (kq ≤ kj7) ∧ Aside0 (Kd.R k54 54 wc w.heap.size (fun _ => True) (.slice Ao10 t672.length co10) t672) ∧ Aside0 (Kd.R (Kd.int .i64) 3 wc w.heap.size (fun _ => True) v687 t685) ∧ Aside0 (Below w.heap.size w wc))
        case first =>
         have H := HC28.out
         clear HC28
         by_cases c38 : t708 = t679
         ·rw [if_pos c38] at H
          have c38b0 : (t708 == t679) = true := beq_iff_eq.mpr c38
          have c38b1 : (t708 != t679) = false := bne_eq_false_iff_eq.mpr c38
          clear c38
          (first | rw [c38b0] | (simp only [i64_w, i32_w]; rw [c38b0]) | skip)
          replace H := Option.bind_eq_some_iff.mp H
          obtain ⟨t711, A390, H⟩ := H
          replace H : (l14_BoundsContradiction.j1 kj7 t671 t672 t685 t686 (!t711)) = some r := H
          have A39 := Aside0.mk A390
          clear A390
          have H' := Aside0.mk H
          clear H
          obtain ⟨Ao40, co40, eo40⟩ := Kd.S_slice HO710.out
          subst eo40
          obtain ⟨Ao41, co41, eo41⟩ := Kd.S_slice HO_7.out
          subst eo41
          go_wp2_with (first | (go_at_call 17; (with_reducible refine (r14_SameTables.calls kj7 _ _ t707 _ _ t678 t711 _ ?side1 ?side2 ?side3 ?side4 A39.out).mono ?_); (case side1 => repeat (first | exact (Kd.S_reads' HO710.out).2.2 | (with_reducible refine Kd.C_alloc ?_ _) | (with_reducible refine Kd.C_drewN ?_ _) | (with_reducible refine Kd.C_drew ?_))); (case side2 => exact (Kd.S_reads' HO710.out).2.1); (case side3 => repeat (first | exact (Kd.S_reads' HO_7.out).2.2 | (with_reducible refine Kd.C_alloc ?_ _) | (with_reducible refine Kd.C_drewN ?_ _) | (with_reducible refine Kd.C_drew ?_))); (case side4 => exact (Kd.S_reads' HO_7.out).2.1); rintro e w' ⟨rfl, ⟨nd, rfl⟩⟩))
          go_meet
          case rel => exact ⟨_, (!t711), (by first | rfl | (simp; done) | (simp [*]; done)), H', ⟨by have := HJ7.out; first | omega | exact Nat.le_refl _⟩, ⟨by (with_reducible repeat (first | apply Kd.R_alloc | apply Kd.R_drewN | apply Kd.R_drew)); exact Kd.R_mono HO_6.out (fun _ hk => trivial)⟩, ⟨by (with_reducible repeat (first | apply Kd.R_alloc | apply Kd.R_drewN | apply Kd.R_drew)); exact HO_9.out⟩, ⟨by repeat (first | (with_reducible first | exact HB.out | apply below_alloc | apply pw_below_drewN | apply below_drew1) | exact HB.out)⟩⟩
         ·rw [if_neg c38] at H
          have c38b0 : (t708 == t679) = false := beq_eq_false_iff_ne.mpr c38
          have c38b1 : (t708 != t679) = true := bne_iff_ne.mpr c38
          (first | rw [c38b0] | (simp only [i64_w, i32_w]; rw [c38b0]) | skip)
          have H' := Aside0.mk H
          clear H
          go_wp2
          go_meet
          case rel => exact ⟨_, (true), (by first | rfl | (simp; done) | (simp [*]; done)), H', ⟨by have := HJ7.out; first | omega | exact Nat.le_refl _⟩, ⟨by (with_reducible repeat (first | apply Kd.R_alloc | apply Kd.R_drewN | apply Kd.R_drew)); exact Kd.R_mono HO_6.out (fun _ hk => trivial)⟩, ⟨by (with_reducible repeat (first | apply Kd.R_alloc | apply Kd.R_drewN | apply Kd.R_drew)); exact HO_9.out⟩, ⟨by repeat (first | (with_reducible first | exact HB.out | apply below_alloc | apply pw_below_drewN | apply below_drew1) | exact HB.out)⟩⟩
        case rest =>
         clear HC28
         try clear c1
         try clear c2
         try clear p2
         try clear c3
         try clear q3
         try clear p6
         try clear c7
         try clear c9
         try clear c11
         try clear c12
         try clear c13
         try clear c15
         try clear c17
         try clear c17b0
         try clear c17b1
         try clear c17b2
         try clear c18
         try clear c20
         try clear c20b0
         try clear c20b1
         try clear c21
         try clear c21b0
         try clear c21b1
         try clear c22
         try clear c23
         try clear c23b0
         try clear c24
         try clear c24b0
         try clear c25
         try clear c30
         try clear q30
         try clear q31
         try clear c38
         try clear c38b0
         try clear c38b1
         try clear p2
         try clear q030
         try clear q30
         try clear q31
         obtain ⟨kq, x80_27, rfl, HA, HJ27, HO_6, HO_9, HB⟩ := hcut
         cases kq with
         | zero => exact absurd HA.out (by simp [l14_BoundsContradiction.j1])
         | succ kj27 =>
          have H := HA.out
          clear HA
          simp only [l14_BoundsContradiction.j1] at H
          by_cases c42 : x80_27 = true
          ·subst c42
           have H1 : (some false) = some r := by rw [if_pos rfl] at H; exact H
           clear H
           have H := H1
           clear H1
           exact absurd H (by rw [HT.out]; simp)
          ·replace c42 := Bool.eq_false_iff.mpr c42
           subst c42
           have H1 : (l14_BoundsContradiction.l0 kj27 t671 t672 t685 t686 (-1)) = some r := by rw [if_neg (show ¬ (false = true) by decide)] at H; exact H
           clear H
           have H := H1
           clear H1
           have H' := Aside0.mk H
           clear H
           go_wp2
           go_loopg [15] kj27 (fun kq v15 w' => ∃ (x15_3 : Int), v15 = .int .i64 x15_3 ∧ Aside0 (l14_BoundsContradiction.l0 kq t671 t672 t685 t686 x15_3 = some r) ∧ Aside0 (kq ≤ kj27) ∧ Aside0 (Kd.R k54 54 w' w.heap.size (fun _ => True) (.slice Ao10 t672.length co10) t672) ∧ Aside0 (Kd.R (Kd.int .i64) 3 w' w.heap.size (fun _ => True) v687 t685) ∧ Aside0 (Below w.heap.size w w'))
           case atStart => exact ⟨((-1)), (by first | rfl | (simp; done) | (simp [*]; done)), H', ⟨Nat.le_refl _⟩, ⟨by (with_reducible repeat (first | apply Kd.R_alloc | apply Kd.R_drewN | apply Kd.R_drew)); exact HO_6.out⟩, ⟨by (with_reducible repeat (first | apply Kd.R_alloc | apply Kd.R_drewN | apply Kd.R_drew)); exact HO_9.out⟩, ⟨by repeat (first | (with_reducible first | exact HB.out | apply below_alloc | apply pw_below_drewN | apply below_drew1) | exact HB.out)⟩⟩
           case round =>
            clear H'
            try clear c1
            try clear c2
            try clear p2
            try clear c3
            try clear q3
            try clear c4
            try clear p6
            try clear c7
            try clear c9
            try clear c11
            try clear c12
            try clear c13
            try clear c15
            try clear c17
            try clear c17b0
            try clear c17b1
            try clear c17b2
            try clear c18
            try clear c20
            try clear c20b0
            try clear c20b1
            try clear c21
            try clear c21b0
            try clear c21b1
            try clear c22
            try clear c23
            try clear c23b0
            try clear c24
            try clear c24b0
            try clear c25
            try clear c30
            try clear q30
            try clear q31
            try clear c38
            try clear c38b0
            try clear c38b1
            try clear c42
            try clear p2
            try clear p6
            try clear q030
            try clear q3
            try clear q30
            try clear q31
            obtain ⟨x15_3, rfl, HA, HK3, HO_6, HO_9, HB⟩ := hrel
            cases gk with
            | zero => exact absurd HA.out (by simp [l14_BoundsContradiction.l0])
            | succ k3 =>
             have H := HA.out
             clear HA
             simp only [l14_BoundsContradiction.l0] at H
             by_cases c43 : x15_3 < (t685.length : Int)
             ·rw [if_pos c43] at H
              have c43b0 : decide (x15_3 < (t685.length : Int)) = true := decide_eq_true c43
              clear c43
              have H' := Aside0.mk H
              clear H
              obtain ⟨Ao44, co44, eo44⟩ := Kd.R_slice HO_9.out
              subst eo44
              go_wp2
              go_loopg [16, 17] k3 (fun kq v16 v17 w' => ∃ (x16_4 : List (S55)) (x17_4 : Int), v17 = .int .i64 x17_4 ∧ Aside0 (l14_BoundsContradiction.l1 kq t671 t672 t685 t686 x15_3 x16_4 x17_4 = some r) ∧ Aside0 (kq ≤ k3) ∧ Aside0 (Kd.R k54 54 w' w.heap.size (fun _ => True) (.slice Ao10 t672.length co10) t672) ∧ Aside0 (Kd.R (Kd.int .i64) 3 w' w.heap.size (fun _ => True) (.slice Ao44 t685.length co44) t685) ∧ Aside0 (Kd.R k55 55 w' w.heap.size (fun _ => True) v16 x16_4) ∧ Aside0 (Below w.heap.size w w'))
              case atStart => exact ⟨(([] : List (S55))), (0), (by first | rfl | (simp; done) | (simp [*]; done)), H', ⟨Nat.le_refl _⟩, ⟨by (with_reducible repeat (first | apply Kd.R_alloc | apply Kd.R_drewN | apply Kd.R_drew)); exact HO_6.out⟩, ⟨by (with_reducible repeat (first | apply Kd.R_alloc | apply Kd.R_drewN | apply Kd.R_drew)); exact HO_9.out⟩, ⟨by first | exact Kd.R_nil _ _ _ _ _ | exact Kd.N_nil _ _ _ _ _ | exact Kd.V_nil _ _ _ _ _ | exact Kd.Q_nil _ _ _ _ _ | exact Kd.S_nil _ _ _ _ _⟩, ⟨by repeat (first | (with_reducible first | exact HB.out | apply below_alloc | apply pw_below_drewN | apply below_drew1) | exact HB.out)⟩⟩
              case round =>
               clear H'
               try clear c1
               try clear c2
               try clear p2
               try clear c3
               try clear q3
               try clear c4
               try clear p6
               try clear c7
               try clear c9
               try clear c11
               try clear c12
               try clear c13
               try clear c15
               try clear c17
               try clear c17b0
               try clear c17b1
               try clear c17b2
               try clear c18
               try clear c20
               try clear c20b0
               try clear c20b1
               try clear c21
               try clear c21b0
               try clear c21b1
               try clear c22
               try clear c23
               try clear c23b0
               try clear c24
               try clear c24b0
               try clear c25
               try clear c30
               try clear q30
               try clear q31
               try clear c38
               try clear c38b0
               try clear c38b1
               try clear c42
               try clear c43
               try clear c43b0
               try clear p2
               try clear p6
               try clear q030
               try clear q3
               try clear q30
               try clear q31
               obtain ⟨x16_4, x17_4, rfl, HA, HK4, HO_6, HO_9, HO_16, HB⟩ := hrel
               cases gk with
               | zero => exact absurd HA.out (by simp [l14_BoundsContradiction.l1])
               | succ k4 =>
                have H := HA.out
                clear HA
                simp only [l14_BoundsContradiction.l1] at H
                by_cases c45 : x17_4 < (t685.length : Int)
                ·rw [if_pos c45] at H
                 have c45b0 : decide (x17_4 < (t685.length : Int)) = true := decide_eq_true c45
                 clear c45
                 have HC46 := Aside0.mk H
                 clear H
                 go_upto_region 19 with (fail)
                 go_cut [106] (fun v106 wc => ∃ (kq : Nat) (x106_45 : Bool), v106 = .bool x106_45 ∧ Aside0 (l14_BoundsContradiction.j4 kq t671 t672 t685 t686 x15_3 x16_4 x17_4 x106_45 = some r) ∧ Aside0 (kq ≤ k4) ∧ Aside0 (Kd.R k54 54 wc w.heap.size (fun _ => True) (.slice Ao10 t672.length co10) t672) ∧ Aside0 (Kd.R (Kd.int .i64) 3 wc w.heap.size (fun _ => True) (.slice Ao44 t685.length co44) t685) ∧ Aside0 (Kd.R k55 55 wc w.heap.size (fun _ => True) u16 x16_4) ∧ Aside0 (Below w.heap.size w wc))
                 case first =>
                  have H := HC46.out
                  clear HC46
                  by_cases c47 : 0 ≤ x17_4
                  ·rw [if_pos c47] at H
                   have c47b0 : decide (0 ≤ x17_4) = true := decide_eq_true c47
                   clear c47
                   (first | rw [c47b0] | (simp only [i64_w, i32_w]; rw [c47b0]) | skip)
                   by_cases c48 : (rd t685 x17_4) < 0
                   ·rw [if_pos c48] at H
                    have c48b0 : decide ((rd t685 x17_4) < 0) = true := decide_eq_true c48
                    clear c48
                    have H' := Aside0.mk H
                    clear H
                    have p713 : 0 ≤ (x17_4 : Int) := of_decide_eq_true (by first | (with_reducible assumption) | assumption)
                    have q713 : x17_4 < (t685.length : Int) := of_decide_eq_true (by first | (with_reducible assumption) | assumption)
                    obtain ⟨ad713, e713, hx713_0⟩ := Kd.at_int (Kd.R_reads' HO_9.out).2.2 x17_4 p713 q713
                    cases e713
                    replace p713 := eq_true p713
                    replace q713 := eq_true q713
                    go_wp2
                    go_meet
                    case rel => exact ⟨_, (true), (by first | rfl | (simp; done) | (simp [*]; done)), H', ⟨by have := HJ7.out; have := HJ27.out; have := HK3.out; have := HK4.out; first | omega | exact Nat.le_refl _⟩, ⟨by (with_reducible repeat (first | apply Kd.R_alloc | apply Kd.R_drewN | apply Kd.R_drew)); exact HO_6.out⟩, ⟨by (with_reducible repeat (first | apply Kd.R_alloc | apply Kd.R_drewN | apply Kd.R_drew)); exact HO_9.out⟩, ⟨by (with_reducible repeat (first | apply Kd.R_alloc | apply Kd.R_drewN | apply Kd.R_drew)); exact HO_16.out⟩, ⟨by repeat (first | (with_reducible first | exact HB.out | apply below_alloc | apply pw_below_drewN | apply below_drew1) | exact HB.out)⟩⟩
                   ·rw [if_neg c48] at H
                    have c48b0 : decide ((rd t685 x17_4) < 0) = false := decide_eq_false c48
                    clear c48
                    have H' := Aside0.mk H
                    clear H
                    have p713 : 0 ≤ (x17_4 : Int) := of_decide_eq_true (by first | (with_reducible assumption) | assumption)
                    have q713 : x17_4 < (t685.length : Int) := of_decide_eq_true (by first | (with_reducible assumption) | assumption)
                    obtain ⟨ad713, e713, hx713_0⟩ := Kd.at_int (Kd.R_reads' HO_9.out).2.2 x17_4 p713 q713
                    cases e713
                    replace p713 := eq_true p713
                    replace q713 := eq_true q713
                    have p714 : 0 ≤ (x17_4 : Int) := of_decide_eq_true (by first | (with_reducible assumption) | assumption)
                    have q714 : x17_4 < (t685.length : Int) := of_decide_eq_true (by first | (with_reducible assumption) | assumption)
                    obtain ⟨ad714, e714, hx714_0⟩ := Kd.at_int (Kd.R_reads' HO_9.out).2.2 x17_4 p714 q714
                    obtain rfl : ad713 = ad714 := (by injection e714)
                    replace p714 := eq_true p714
                    replace q714 := eq_true q714
                    go_wp2
                    go_meet
                    case rel => exact ⟨_, (decide ((rd t685 x17_4) ≥ (t672.length : Int))), (by first | rfl | (simp; done) | (simp [*]; done)), H', ⟨by have := HJ7.out; have := HJ27.out; have := HK3.out; have := HK4.out; first | omega | exact Nat.le_refl _⟩, ⟨by (with_reducible repeat (first | apply Kd.R_alloc | apply Kd.R_drewN | apply Kd.R_drew)); exact HO_6.out⟩, ⟨by (with_reducible repeat (first | apply Kd.R_alloc | apply Kd.R_drewN | apply Kd.R_drew)); exact HO_9.out⟩, ⟨by (with_reducible repeat (first | apply Kd.R_alloc | apply Kd.R_drewN | apply Kd.R_drew)); exact HO_16.out⟩, ⟨by repeat (first | (with_reducible first | exact HB.out | apply below_alloc | apply pw_below_drewN | apply below_drew1) | exact HB.out)⟩⟩
                  ·rw [if_neg c47] at H
                   exact absurd H (by simp)
                 case rest =>
                  clear HC46
                  try clear c1
                  try clear c2
                  try clear p2
                  try clear c3
                  try clear q3
                  try clear c4
                  try clear p6
                  try clear c7
                  try clear p7
                  try clear q7
                  try clear hx7
                  try clear c9
                  try clear c11
                  try clear c12
                  try clear c13
                  try clear c15
                  try clear c17
                  try clear c17b0
                  try clear c17b1
                  try clear c17b2
                  try clear c18
                  try clear c20
                  try clear c20b0
                  try clear c20b1
                  try clear c21
                  try clear c21b0
                  try clear c21b1
                  try clear c22
                  try clear c23
                  try clear c23b0
                  try clear c24
                  try clear c24b0
                  try clear c25
                  try clear c30
                  try clear q30
                  try clear q31
                  try clear c38
                  try clear c38b0
                  try clear c38b1
                  try clear c42
                  try clear c43
                  try clear c43b0
                  try clear c45
                  try clear c45b0
                  try clear c47
                  try clear c47b0
                  try clear c48
                  try clear c48b0
                  try clear hx713_0
                  try clear hx714_0
                  try clear p2
                  try clear p6
                  try clear p713
                  try clear p714
                  try clear q030
                  try clear q3
                  try clear q30
                  try clear q31
                  try clear q713
                  try clear q714
                  obtain ⟨kq, x106_45, rfl, HA, HJ45, HO_6, HO_9, HO_16, HB⟩ := hcut
                  cases kq with
                  | zero => exact absurd HA.out (by simp [l14_BoundsContradiction.j4])
                  | succ kj45 =>
                   have H := HA.out
                   clear HA
                   simp only [l14_BoundsContradiction.j4] at H
                   by_cases c49 : x106_45 = true
                   ·subst c49
                    have H1 : (some false) = some r := by rw [if_pos rfl] at H; exact H
                    clear H
                    have H := H1
                    clear H1
                    exact absurd H (by rw [HT.out]; simp)
                   ·replace c49 := Bool.eq_false_iff.mpr c49
                    subst c49
                    have H1 : (if x17_4 = x15_3 then (l14_BoundsContradiction.l1 kj45 t671 t672 t685 t686 x15_3 x16_4 (wrap64 (x17_4 + 1))) else (if 0 ≤ x17_4 then (if x17_4 < (t685.length : Int) then (if 0 ≤ (rd t685 x17_4) then (if (rd t685 x17_4) < (t672.length : Int) then (if x16_4.length < 5864062014805 then (l14_BoundsContradiction.l1 kj45 t671 t672 t685 t686 x15_3 (x16_4 ++ [(⟨(rd_T54 t672 (rd t685 x17_4)).f0, (rd_T54 t672 (rd t685 x17_4)).f1, (rd_T54 t672 (rd t685 x17_4)).f2⟩ : S55)]) (wrap64 (x17_4 + 1))) else (none)) else (none)) else (none)) else (none)) else (none))) = some r := by rw [if_neg (show ¬ (false = true) by decide)] at H; exact H
                    clear H
                    have H := H1
                    clear H1
                    by_cases c50 : x17_4 = x15_3
                    ·rw [if_pos c50] at H
                     have c50b0 : (x17_4 == x15_3) = true := beq_iff_eq.mpr c50
                     have c50b1 : (x17_4 != x15_3) = false := bne_eq_false_iff_eq.mpr c50
                     clear c50
                     have H' := Aside0.mk H
                     clear H
                     go_wp2
                     go_roundg kj45
                     case measure => have := HJ7.out; have := HJ27.out; have := HK3.out; have := HK4.out; have := HJ45.out; omega
                     case rel => exact ⟨(x16_4), (wrap64 (x17_4 + 1)), (by first | rfl | (simp; done) | (simp [*]; done)), H', ⟨by have := HJ7.out; have := HJ27.out; have := HK3.out; have := HK4.out; have := HJ45.out; omega⟩, ⟨by (with_reducible repeat (first | apply Kd.R_alloc | apply Kd.R_drewN | apply Kd.R_drew)); exact HO_6.out⟩, ⟨by (with_reducible repeat (first | apply Kd.R_alloc | apply Kd.R_drewN | apply Kd.R_drew)); exact HO_9.out⟩, ⟨by (with_reducible repeat (first | apply Kd.R_alloc | apply Kd.R_drewN | apply Kd.R_drew)); exact HO_16.out⟩, ⟨by repeat (first | (with_reducible first | exact HB.out | apply below_alloc | apply pw_below_drewN | apply below_drew1) | exact HB.out)⟩⟩
                    ·rw [if_neg c50] at H
                     have c50b0 : (x17_4 == x15_3) = false := beq_eq_false_iff_ne.mpr c50
                     have c50b1 : (x17_4 != x15_3) = true := bne_iff_ne.mpr c50
                     by_cases c51 : 0 ≤ x17_4
                     ·rw [if_pos c51] at H
                      have c51b0 : decide (0 ≤ x17_4) = true := decide_eq_true c51
                      clear c51
                      by_cases c52 : x17_4 < (t685.length : Int)
                      ·rw [if_pos c52] at H
                       have c52b0 : decide (x17_4 < (t685.length : Int)) = true := decide_eq_true c52
                       clear c52
                       by_cases c53 : 0 ≤ (rd t685 x17_4)
                       ·rw [if_pos c53] at H
                        have c53b0 : decide (0 ≤ (rd t685 x17_4)) = true := decide_eq_true c53
                        clear c53
                        by_cases c54 : (rd t685 x17_4) < (t672.length : Int)
                        ·rw [if_pos c54] at H
                         have c54b0 : decide ((rd t685 x17_4) < (t672.length : Int)) = true := decide_eq_true c54
                         clear c54
                         by_cases c55 : x16_4.length < 5864062014805
                         ·rw [if_pos c55] at H
                          have LMc55 := Aside0.mk c55
                          clear c55
                          obtain ⟨y721, hy721⟩ : ∃ y_ : List (S55), y_ = (x16_4 ++ [(⟨(rd_T54 t672 (rd t685 x17_4)).f0, (rd_T54 t672 (rd t685 x17_4)).f1, (rd_T54 t672 (rd t685 x17_4)).f2⟩ : S55)]) := ⟨_, rfl⟩
                          replace H : (l14_BoundsContradiction.l1 kj45 t671 t672 t685 t686 x15_3 y721 (wrap64 (x17_4 + 1))) = some r := by first | (rw [hy721]; with_reducible exact H) | (have H2_ := (Option.bind_some _ _).symm.trans H; rw [hy721]; with_reducible exact H2_) | (have H2_ := (Option.bind_some _ _).symm.trans H; with_reducible exact H2_) | with_reducible exact H | (rw [hy721]; exact H) | exact H
                          have Ny721 := Aside0.mk hy721
                          clear hy721
                          have H' := Aside0.mk H
                          clear H
                          try go_wp2
                          have n0_ := Aside0.mk (Kd.R_drew HO_6.out)
                          have n1_ := Aside0.mk (Kd.R_drew HO_9.out)
                          have n2_ := Aside0.mk (Kd.R_drew HO_16.out)
                          have n5_ := Aside0.mk (below_drew1 HB.out)
                          clear HO_6
                          clear HO_9
                          clear HO_16
                          clear HB
                          have HO_6 := n0_
                          have HO_9 := n1_
                          have HO_16 := n2_
                          have HB := n5_
                          clear n0_ n1_ n2_ n5_
                          have p715 : 0 ≤ (x17_4 : Int) := of_decide_eq_true (by first | (with_reducible assumption) | assumption)
                          have q715 : x17_4 < (t685.length : Int) := of_decide_eq_true (by first | (with_reducible assumption) | assumption)
                          obtain ⟨ad715, e715, hx715_0⟩ := Kd.at_int (Kd.R_reads' HO_9.out).2.2 x17_4 p715 q715
                          cases e715
                          replace p715 := eq_true p715
                          replace q715 := eq_true q715
                          have p716 : 0 ≤ ((rd t685 x17_4) : Int) := of_decide_eq_true (by first | (with_reducible assumption) | assumption)
                          have q716 : (rd t685 x17_4) < (t672.length : Int) := of_decide_eq_true (by first | (with_reducible assumption) | assumption)
                          obtain ⟨ad716, e716, hx716_0, hx716_1, hx716_2⟩ := at_T54 (Kd.R_reads' HO_6.out).2.2 (rd t685 x17_4) p716 q716
                          cases e716
                          replace p716 := eq_true p716
                          replace q716 := eq_true q716
                          have p717 : 0 ≤ (x17_4 : Int) := of_decide_eq_true (by first | (with_reducible assumption) | assumption)
                          have q717 : x17_4 < (t685.length : Int) := of_decide_eq_true (by first | (with_reducible assumption) | assumption)
                          obtain ⟨ad717, e717, hx717_0⟩ := Kd.at_int (Kd.R_reads' HO_9.out).2.2 x17_4 p717 q717
                          obtain rfl : ad715 = ad717 := (by injection e717)
                          replace p717 := eq_true p717
                          replace q717 := eq_true q717
                          have p718 : 0 ≤ ((rd t685 x17_4) : Int) := of_decide_eq_true (by first | (with_reducible assumption) | assumption)
                          have q718 : (rd t685 x17_4) < (t672.length : Int) := of_decide_eq_true (by first | (with_reducible assumption) | assumption)
                          obtain ⟨ad718, e718, hx718_0, hx718_1, hx718_2⟩ := at_T54 (Kd.R_reads' HO_6.out).2.2 (rd t685 x17_4) p718 q718
                          obtain rfl : ad716 = ad718 := (by injection e718)
                          replace p718 := eq_true p718
                          replace q718 := eq_true q718
                          have p719 : 0 ≤ (x17_4 : Int) := of_decide_eq_true (by first | (with_reducible assumption) | assumption)
                          have q719 : x17_4 < (t685.length : Int) := of_decide_eq_true (by first | (with_reducible assumption) | assumption)
                          obtain ⟨ad719, e719, hx719_0⟩ := Kd.at_int (Kd.R_reads' HO_9.out).2.2 x17_4 p719 q719
                          obtain rfl : ad715 = ad719 := (by injection e719)
                          replace p719 := eq_true p719
                          replace q719 := eq_true q719
                          have p720 : 0 ≤ ((rd t685 x17_4) : Int) := of_decide_eq_true (by first | (with_reducible assumption) | assumption)
                          have q720 : (rd t685 x17_4) < (t672.length : Int) := of_decide_eq_true (by first | (with_reducible assumption) | assumption)
                          obtain ⟨ad720, e720, hx720_0, hx720_1, hx720_2⟩ := at_T54 (Kd.R_reads' HO_6.out).2.2 (rd t685 x17_4) p720 q720
                          obtain rfl : ad716 = ad720 := (by injection e720)
                          replace p720 := eq_true p720
                          replace q720 := eq_true q720
                          refine start_ (n := 29) (S := fun w' => w'.cell? (ad715.add (x17_4).toNat) = some (.int .i64 (rd t685 x17_4)) ∧ w'.cell? (ad716.add (((rd t685 x17_4)).toNat * 3)) = some (.int .i64 ((rd_T54 t672 (rd t685 x17_4)).f0)) ∧ w'.cell? ⟨(ad716.add (((rd t685 x17_4)).toNat * 3)).block, (ad716.add (((rd t685 x17_4)).toNat * 3)).off + 1, none⟩ = some (.int .i64 ((rd_T54 t672 (rd t685 x17_4)).f1)) ∧ w'.cell? ⟨(ad716.add (((rd t685 x17_4)).toNat * 3)).block, (ad716.add (((rd t685 x17_4)).toNat * 3)).off + 2, none⟩ = some (.int .i64 ((rd_T54 t672 (rd t685 x17_4)).f2)) ∧ w'.cell? (ad715.add (x17_4).toNat) = some (.int .i64 (rd t685 x17_4)) ∧ w'.cell? (ad716.add (((rd t685 x17_4)).toNat * 3)) = some (.int .i64 ((rd_T54 t672 (rd t685 x17_4)).f0)) ∧ w'.cell? ⟨(ad716.add (((rd t685 x17_4)).toNat * 3)).block, (ad716.add (((rd t685 x17_4)).toNat * 3)).off + 1, none⟩ = some (.int .i64 ((rd_T54 t672 (rd t685 x17_4)).f1)) ∧ w'.cell? ⟨(ad716.add (((rd t685 x17_4)).toNat * 3)).block, (ad716.add (((rd t685 x17_4)).toNat * 3)).off + 2, none⟩ = some (.int .i64 ((rd_T54 t672 (rd t685 x17_4)).f2)) ∧ w'.cell? (ad715.add (x17_4).toNat) = some (.int .i64 (rd t685 x17_4)) ∧ w'.cell? (ad716.add (((rd t685 x17_4)).toNat * 3)) = some (.int .i64 ((rd_T54 t672 (rd t685 x17_4)).f0)) ∧ w'.cell? ⟨(ad716.add (((rd t685 x17_4)).toNat * 3)).block, (ad716.add (((rd t685 x17_4)).toNat * 3)).off + 1, none⟩ = some (.int .i64 ((rd_T54 t672 (rd t685 x17_4)).f1)) ∧ w'.cell? ⟨(ad716.add (((rd t685 x17_4)).toNat * 3)).block, (ad716.add (((rd t685 x17_4)).toNat * 3)).off + 2, none⟩ = some (.int .i64 ((rd_T54 t672 (rd t685 x17_4)).f2))) (ds := [26, 27]) #[false, false, false, false, false, false, false, false, false, false, false, false, false, false, false, false, false, false, false, false, false, false, false, false, false, false, false, false, false] (by kernel_rfl) rfl rfl ⟨hx715_0, hx716_0, hx716_1, hx716_2, hx717_0, hx718_0, hx718_1, hx718_2, hx719_0, hx720_0, hx720_1, hx720_2⟩ (fun hHeld => ?_); refine with_tabW l14_BoundsContradiction.tab22 l14_BoundsContradiction.bits22 (fun HT_ HW_ => ?_)
                          generalize wc.drew = w56 at HO_6 HO_9 HO_16 HB hx715_0 hx716_0 hx716_1 hx716_2 hx717_0 hx718_0 hx718_1 hx718_2 hx719_0 hx720_0 hx720_1 hx720_2 hHeld ⊢
                          refine pS_ 0 (some 110) rfl rfl HT_.out (by kernel_rfl) ?_ (fun _ _ _ h => h) (by rfl) ?_ ?_ ?_ ?_
                          rotate_left
                          ·intro w'
                           go_simp
                           with_reducible rfl
                          rotate_left
                          ·simp only [Act.put, List.setIfInBounds_toArray, List.set_cons_zero, List.set_cons_succ, i64_w, i32_w]
                           rfl
                          refine pS_ 1 (some 111) rfl rfl HT_.out (by kernel_rfl) ?_ (fun _ _ _ h => h) (by rfl) ?_ ?_ ?_ ?_
                          rotate_left
                          ·intro w'
                           go_simp
                           with_reducible rfl
                          rotate_left
                          ·simp only [Act.put, List.setIfInBounds_toArray, List.set_cons_zero, List.set_cons_succ, i64_w, i32_w]
                           rfl
                          refine pS_ 2 (some 112) rfl rfl HT_.out (by kernel_rfl) ?_ (fun _ _ _ h => h) (by rfl) ?_ ?_ ?_ ?_
                          rotate_left
                          ·intro w'
                           go_simp
                           with_reducible rfl
                          rotate_left
                          ·simp only [Act.put, List.setIfInBounds_toArray, List.set_cons_zero, List.set_cons_succ, i64_w, i32_w]
                           rfl
                          refine pS_ 3 (some 113) rfl rfl HT_.out (by kernel_rfl) ?_ (fun _ _ _ h => h) (by rfl) ?_ ?_ ?_ ?_
                          rotate_left
                          ·intro w'
                           go_simp
                           with_reducible rfl
                          rotate_left
                          ·simp only [Act.put, List.setIfInBounds_toArray, List.set_cons_zero, List.set_cons_succ, i64_w, i32_w]
                           rfl
                          refine pS_ 4 (some 114) rfl rfl HT_.out (by kernel_rfl) ?_ (fun _ _ _ h => h) (by rfl) ?_ ?_ ?_ ?_
                          rotate_left
                          ·intro w'
                           go_simp
                           with_reducible rfl
                          rotate_left
                          ·simp only [Act.put, List.setIfInBounds_toArray, List.set_cons_zero, List.set_cons_succ, i64_w, i32_w]
                           rfl
                          refine pS_ 9 (some 119) rfl rfl HT_.out (by kernel_rfl) ?_ (fun _ _ _ h => h) (by rfl) ?_ ?_ ?_ ?_
                          rotate_left
                          ·intro w'
                           go_simp
                           with_reducible rfl
                          rotate_left
                          ·simp only [Act.put, List.setIfInBounds_toArray, List.set_cons_zero, List.set_cons_succ, i64_w, i32_w]
                           rfl
                          refine pS_ 10 (some 120) rfl rfl HT_.out (by kernel_rfl) ?_ (fun _ _ _ h => h) (by rfl) ?_ ?_ ?_ ?_
                          rotate_left
                          ·intro w'
                           go_simp
                           with_reducible rfl
                          rotate_left
                          ·simp only [Act.put, List.setIfInBounds_toArray, List.set_cons_zero, List.set_cons_succ, i64_w, i32_w]
                           rfl
                          refine pS_ 11 (some 121) rfl rfl HT_.out (by kernel_rfl) ?_ (fun _ _ _ h => h) (by rfl) ?_ ?_ ?_ ?_
                          rotate_left
                          ·intro w'
                           go_simp
                           with_reducible rfl
                          rotate_left
                          ·simp only [Act.put, List.setIfInBounds_toArray, List.set_cons_zero, List.set_cons_succ, i64_w, i32_w]
                           rfl
                          refine pS_ 12 (some 122) rfl rfl HT_.out (by kernel_rfl) ?_ (fun _ _ _ h => h) (by rfl) ?_ ?_ ?_ ?_
                          rotate_left
                          ·intro w'
                           go_simp
                           with_reducible rfl
                          rotate_left
                          ·simp only [Act.put, List.setIfInBounds_toArray, List.set_cons_zero, List.set_cons_succ, i64_w, i32_w]
                           rfl
                          refine pS_ 17 (some 127) rfl rfl HT_.out (by kernel_rfl) ?_ (fun _ _ _ h => h) (by rfl) ?_ ?_ ?_ ?_
                          rotate_left
                          ·intro w'
                           go_simp
                           with_reducible rfl
                          rotate_left
                          ·simp only [Act.put, List.setIfInBounds_toArray, List.set_cons_zero, List.set_cons_succ, i64_w, i32_w]
                           rfl
                          refine pS_ 18 (some 128) rfl rfl HT_.out (by kernel_rfl) ?_ (fun _ _ _ h => h) (by rfl) ?_ ?_ ?_ ?_
                          rotate_left
                          ·intro w'
                           go_simp
                           with_reducible rfl
                          rotate_left
                          ·simp only [Act.put, List.setIfInBounds_toArray, List.set_cons_zero, List.set_cons_succ, i64_w, i32_w]
                           rfl
                          refine pS_ 19 (some 129) rfl rfl HT_.out (by kernel_rfl) ?_ (fun _ _ _ h => h) (by rfl) ?_ ?_ ?_ ?_
                          rotate_left
                          ·intro w'
                           go_simp
                           with_reducible rfl
                          rotate_left
                          ·simp only [Act.put, List.setIfInBounds_toArray, List.set_cons_zero, List.set_cons_succ, i64_w, i32_w]
                           rfl
                          refine pS_ 20 (some 130) rfl rfl HT_.out (by kernel_rfl) ?_ (fun _ _ _ h => h) (by rfl) ?_ ?_ ?_ ?_
                          rotate_left
                          ·intro w'
                           go_simp
                           with_reducible rfl
                          rotate_left
                          ·simp only [Act.put, List.setIfInBounds_toArray, List.set_cons_zero, List.set_cons_succ, i64_w, i32_w]
                           rfl
                          refine take_ (i := 5) (N := some 115) (v := ?_) (a' := ?_) #[true, true, true, true, true, true, false, false, false, true, true, true, true, false, false, false, false, true, true, true, true, false, false, false, false, false, false, false, false] rfl rfl (take_ofW HT_.out HW_.out (by kernel_rfl)) (fun _ _ _ h => h) (Or.inl ⟨by rfl, ?_⟩) hHeld ?_ ?_
                          rotate_left
                          ·rintro w' ⟨s0, s1, s2, s3, s4, s5, s6, s7, s8, s9, s10, s11⟩
                           go_simp
                           with_reducible rfl
                          rotate_left
                          ·simp only [Act.put, List.setIfInBounds_toArray, List.set_cons_zero, List.set_cons_succ, i64_w, i32_w]
                           rfl
                          refine pS_ 6 (some 116) rfl rfl HT_.out (by kernel_rfl) ?_ (fun _ _ _ h => h) (by rfl) ?_ ?_ ?_ ?_
                          rotate_left
                          ·intro w'
                           go_simp
                           with_reducible rfl
                          rotate_left
                          ·simp only [Act.put, List.setIfInBounds_toArray, List.set_cons_zero, List.set_cons_succ, i64_w, i32_w]
                           rfl
                          refine pS_ 7 (some 117) rfl rfl HT_.out (by kernel_rfl) ?_ (fun _ _ _ h => h) (by rfl) ?_ ?_ ?_ ?_
                          rotate_left
                          ·intro w'
                           go_simp
                           with_reducible rfl
                          rotate_left
                          ·simp only [Act.put, List.setIfInBounds_toArray, List.set_cons_zero, List.set_cons_succ, i64_w, i32_w]
                           rfl
                          refine take_ (i := 8) (N := some 118) (v := ?_) (a' := ?_) #[true, true, true, true, true, true, true, true, true, true, true, true, true, false, false, false, false, true, true, true, true, false, false, false, false, false, false, false, false] rfl rfl (take_ofW HT_.out HW_.out (by kernel_rfl)) (fun _ _ _ h => h) (Or.inl ⟨by rfl, ?_⟩) hHeld ?_ ?_
                          rotate_left
                          ·rintro w' ⟨s0, s1, s2, s3, s4, s5, s6, s7, s8, s9, s10, s11⟩
                           go_simp
                           with_reducible rfl
                          rotate_left
                          ·simp only [Act.put, List.setIfInBounds_toArray, List.set_cons_zero, List.set_cons_succ, i64_w, i32_w]
                           rfl
                          refine take_ (i := 13) (N := some 123) (v := ?_) (a' := ?_) #[true, true, true, true, true, true, true, true, true, true, true, true, true, true, false, false, false, true, true, true, true, false, false, false, false, false, false, false, false] rfl rfl (take_ofW HT_.out HW_.out (by kernel_rfl)) (fun _ _ _ h => h) (Or.inl ⟨by rfl, ?_⟩) hHeld ?_ ?_
                          rotate_left
                          ·rintro w' ⟨s0, s1, s2, s3, s4, s5, s6, s7, s8, s9, s10, s11⟩
                           go_simp
                           with_reducible rfl
                          rotate_left
                          ·simp only [Act.put, List.setIfInBounds_toArray, List.set_cons_zero, List.set_cons_succ, i64_w, i32_w]
                           rfl
                          refine pS_ 14 (some 124) rfl rfl HT_.out (by kernel_rfl) ?_ (fun _ _ _ h => h) (by rfl) ?_ ?_ ?_ ?_
                          rotate_left
                          ·intro w'
                           go_simp
                           with_reducible rfl
                          rotate_left
                          ·simp only [Act.put, List.setIfInBounds_toArray, List.set_cons_zero, List.set_cons_succ, i64_w, i32_w]
                           rfl
                          refine pS_ 15 (some 125) rfl rfl HT_.out (by kernel_rfl) ?_ (fun _ _ _ h => h) (by rfl) ?_ ?_ ?_ ?_
                          rotate_left
                          ·intro w'
                           go_simp
                           with_reducible rfl
                          rotate_left
                          ·simp only [Act.put, List.setIfInBounds_toArray, List.set_cons_zero, List.set_cons_succ, i64_w, i32_w]
                           rfl
                          refine take_ (i := 16) (N := some 126) (v := ?_) (a' := ?_) #[true, true, true, true, true, true, true, true, true, true, true, true, true, true, true, true, true, true, true, true, true, false, false, false, false, false, false, false, false] rfl rfl (take_ofW HT_.out HW_.out (by kernel_rfl)) (fun _ _ _ h => h) (Or.inl ⟨by rfl, ?_⟩) hHeld ?_ ?_
                          rotate_left
                          ·rintro w' ⟨s0, s1, s2, s3, s4, s5, s6, s7, s8, s9, s10, s11⟩
                           go_simp
                           with_reducible rfl
                          rotate_left
                          ·simp only [Act.put, List.setIfInBounds_toArray, List.set_cons_zero, List.set_cons_succ, i64_w, i32_w]
                           rfl
                          refine take_ (i := 21) (N := some 131) (v := ?_) (a' := ?_) #[true, true, true, true, true, true, true, true, true, true, true, true, true, true, true, true, true, true, true, true, true, true, false, false, false, false, false, false, false] rfl rfl (take_ofW HT_.out HW_.out (by kernel_rfl)) (fun _ _ _ h => h) (Or.inl ⟨by rfl, ?_⟩) hHeld ?_ ?_
                          rotate_left
                          ·rintro w' ⟨s0, s1, s2, s3, s4, s5, s6, s7, s8, s9, s10, s11⟩
                           go_simp
                           with_reducible rfl
                          rotate_left
                          ·simp only [Act.put, List.setIfInBounds_toArray, List.set_cons_zero, List.set_cons_succ, i64_w, i32_w]
                           rfl
                          refine pS_ 22 (some 132) rfl rfl HT_.out (by kernel_rfl) ?_ (fun _ _ _ h => h) (by rfl) ?_ ?_ ?_ ?_
                          rotate_left
                          ·intro w'
                           go_simp
                           with_reducible rfl
                          rotate_left
                          ·simp only [Act.put, List.setIfInBounds_toArray, List.set_cons_zero, List.set_cons_succ, i64_w, i32_w]
                           rfl
                          refine pS_ 23 (some 133) rfl rfl HT_.out (by kernel_rfl) ?_ (fun _ _ _ h => h) (by rfl) ?_ ?_ ?_ ?_
                          rotate_left
                          ·intro w'
                           go_simp
                           with_reducible rfl
                          rotate_left
                          ·simp only [Act.put, List.setIfInBounds_toArray, List.set_cons_zero, List.set_cons_succ, i64_w, i32_w]
                           rfl
                          refine take_ (i := 24) (N := some 134) (v := ?_) (a' := ?_) #[true, true, true, true, true, true, true, true, true, true, true, true, true, true, true, true, true, true, true, true, true, true, true, true, true, false, false, false, false] rfl rfl (take_ofW HT_.out HW_.out (by kernel_rfl)) (fun _ _ _ h => h) (Or.inl ⟨by rfl, ?_⟩) hHeld ?_ ?_
                          rotate_left
                          ·rintro w' ⟨s0, s1, s2, s3, s4, s5, s6, s7, s8, s9, s10, s11⟩
                           go_simp
                           with_reducible rfl
                          rotate_left
                          ·simp only [Act.put, List.setIfInBounds_toArray, List.set_cons_zero, List.set_cons_succ, i64_w, i32_w]
                           rfl
                          refine pS_ 25 (some 135) rfl rfl HT_.out (by kernel_rfl) ?_ (fun _ _ _ h => h) (by rfl) ?_ ?_ ?_ ?_
                          rotate_left
                          ·intro w'
                           go_simp
                           with_reducible rfl
                          rotate_left
                          ·simp only [Act.put, List.setIfInBounds_toArray, List.set_cons_zero, List.set_cons_succ, i64_w, i32_w]
                           rfl
                          refine last_ (i := 26) (N := some 136) #[true, true, true, true, true, true, true, true, true, true, true, true, true, true, true, true, true, true, true, true, true, true, true, true, true, true, true, false, false] rfl rfl (one_of HT_.out (by kernel_rfl)) (by decide) (fun K hK => ?_)
                          refine value_ (w1 := ?_) (v := ?_) (by rfl) rfl ?_ ?_
                          rotate_left 2
                          ·go_simp
                           constructor
                           ·rfl
                           ·rfl
                          refine hK.out _ _ ?_
                          clear hK K
                          refine norm_ (a' := ?_) ?_ ?_
                          rotate_left
                          ·show Act.put _ (some 136) _ = _
                           simp only [Act.put, List.setIfInBounds_toArray, List.set_cons_zero, List.set_cons_succ, i64_w, i32_w]
                           rfl
                          refine last_ (i := 27) (N := some 137) #[true, true, true, true, true, true, true, true, true, true, true, true, true, true, true, true, true, true, true, true, true, true, true, true, true, true, true, true, false] rfl rfl (one_of HT_.out (by kernel_rfl)) (by decide) (fun K hK => ?_)
                          refine Kd.R_append_step k55 (w0 := w) w.heap.size (by rfl) (.tmp 110) (.tmp 136) 33 55 (.agg #[(.int .i64 0), (.int .i64 0), (.int .i64 0)]) 24 rfl Try.underlying33 info55 rfl (by decide) (by omega) u16 x16_4 (⟨(rd_T54 t672 (rd t685 x17_4)).f0, (rd_T54 t672 (rd t685 x17_4)).f1, (rd_T54 t672 (rd t685 x17_4)).f2⟩ : S55) [.int .i64 ((rd_T54 t672 (rd t685 x17_4)).f0), .int .i64 ((rd_T54 t672 (rd t685 x17_4)).f1), .int .i64 ((rd_T54 t672 (rd t685 x17_4)).f2)] (fun _ => True) (fun _ => False) rfl rfl ?aP (fun _ hk => hk.elim) ?aF ?aO ?aB ?aS ?aL ?_
                          (case aP => exact k55_mkM _ _ _ (⟨(rd_T54 t672 (rd t685 x17_4)).f0, (rd_T54 t672 (rd t685 x17_4)).f1, (rd_T54 t672 (rd t685 x17_4)).f2⟩ : S55))
                          (case aB => exact (by repeat (first | (with_reducible first | exact HB.out | apply below_alloc | apply pw_below_drewN | apply below_drew1) | exact HB.out)))
                          (case aF => exact (fun _ _ => trivial))
                          (case aO => exact (by (with_reducible repeat (first | apply Kd.R_alloc | apply Kd.R_drewN | apply Kd.R_drew)); exact HO_16.out))
                          (case aS => exact (below_size (by repeat (first | (with_reducible first | exact HB.out | apply below_alloc | apply pw_below_drewN | apply below_drew1) | exact HB.out))))
                          (case aL => have := LMc55.out; omega)
                          intro v722 w57 ho hb hg hat
                          rw [← Ny721.out] at ho
                          have n0_ := Aside0.mk (Kd.R_over' (by (with_reducible repeat (first | apply Kd.R_alloc | apply Kd.R_drewN | apply Kd.R_drew)); exact HO_6.out) (Kd.R_typed (by (with_reducible repeat (first | apply Kd.R_alloc | apply Kd.R_drewN | apply Kd.R_drew)); exact HO_16.out)) (by decide) hg)
                          have n1_ := Aside0.mk (Kd.R_over' (by (with_reducible repeat (first | apply Kd.R_alloc | apply Kd.R_drewN | apply Kd.R_drew)); exact HO_9.out) (Kd.R_typed (by (with_reducible repeat (first | apply Kd.R_alloc | apply Kd.R_drewN | apply Kd.R_drew)); exact HO_16.out)) (by decide) hg)
                          have n2_ := Aside0.mk (hb)
                          have n5_ := Aside0.mk (ho)
                          clear HO_6
                          clear HO_9
                          clear HB
                          clear HO_16
                          have HO_6 := n0_
                          have HO_9 := n1_
                          have HB := n2_
                          have HO723 := n5_
                          clear n0_ n1_ n2_ n5_
                          clear ho hb hg hat
                          refine hK.out _ _ ?_
                          clear hK K
                          refine norm_ (a' := ?_) ?_ ?_
                          rotate_left
                          ·show Act.put _ (some 137) _ = _
                           simp only [Act.put, List.setIfInBounds_toArray, List.set_cons_zero, List.set_cons_succ, i64_w, i32_w]
                           rfl
                          refine pS_ 28 (some 16) rfl rfl HT_.out (by kernel_rfl) ?_ (fun _ _ _ h => h) (by rfl) ?_ ?_ ?_ ?_
                          rotate_left
                          ·intro w'
                           go_simp
                           with_reducible rfl
                          rotate_left
                          ·simp only [Act.put, List.setIfInBounds_toArray, List.set_cons_zero, List.set_cons_succ, i64_w, i32_w]
                           rfl
                          refine done_ (done_of HT_.out (by kernel_rfl)) ?_
                          try go_wp2
                          go_roundg kj45
                          case measure => have := HJ7.out; have := HJ27.out; have := HK3.out; have := HK4.out; have := HJ45.out; omega
                          case rel => exact ⟨(y721), (wrap64 (x17_4 + 1)), (by first | rfl | (simp; done) | (simp [*]; done)), H', ⟨by have := HJ7.out; have := HJ27.out; have := HK3.out; have := HK4.out; have := HJ45.out; omega⟩, ⟨by (with_reducible repeat (first | apply Kd.R_alloc | apply Kd.R_drewN | apply Kd.R_drew)); exact HO_6.out⟩, ⟨by (with_reducible repeat (first | apply Kd.R_alloc | apply Kd.R_drewN | apply Kd.R_drew)); exact HO_9.out⟩, ⟨by (with_reducible repeat (first | apply Kd.R_alloc | apply Kd.R_drewN | apply Kd.R_drew)); exact HO723.out⟩, ⟨by repeat (first | (with_reducible first | exact HB.out | apply below_alloc | apply pw_below_drewN | apply below_drew1) | exact HB.out)⟩⟩
                         ·rw [if_neg c55] at H
                          exact absurd H (by simp)
                        ·rw [if_neg c54] at H
                         exact absurd H (by simp)
                       ·rw [if_neg c53] at H
                        exact absurd H (by simp)
                      ·rw [if_neg c52] at H
                       exact absurd H (by simp)
                     ·rw [if_neg c51] at H
                      exact absurd H (by simp)
                ·rw [if_neg c45] at H
                 have c45b0 : decide (x17_4 < (t685.length : Int)) = false := decide_eq_false c45
                 clear c45
                 by_cases c58 : t686 = 0
                 ·rw [if_pos c58] at H
                  have c58b0 : (t686 == 0) = true := beq_iff_eq.mpr c58
                  have c58b1 : (t686 != 0) = false := bne_eq_false_iff_eq.mpr c58
                  clear c58
                  replace H := Option.bind_eq_some_iff.mp H
                  obtain ⟨⟨t724, t725⟩, A590, H⟩ := H
                  replace H : (if x15_3 < 0 then (if t725 = 14 then (if x15_3 ≥ 0 then (if t725 = 0 then (l14_BoundsContradiction.l0 k4 t671 t672 t685 t686 (wrap64 (x15_3 + 1))) else (some false)) else (l14_BoundsContradiction.l0 k4 t671 t672 t685 t686 (wrap64 (x15_3 + 1)))) else (some false)) else (if x15_3 ≥ 0 then (if t725 = 0 then (l14_BoundsContradiction.l0 k4 t671 t672 t685 t686 (wrap64 (x15_3 + 1))) else (some false)) else (l14_BoundsContradiction.l0 k4 t671 t672 t685 t686 (wrap64 (x15_3 + 1))))) = some r := H
                  have A59 := Aside0.mk A590
                  clear A590
                  by_cases c60 : x15_3 < 0
                  ·rw [if_pos c60] at H
                   have c60b0 : decide (x15_3 < 0) = true := decide_eq_true c60
                   clear c60
                   by_cases c61 : t725 = 14
                   ·rw [if_pos c61] at H
                    have c61b0 : (t725 == 14) = true := beq_iff_eq.mpr c61
                    have c61b1 : (t725 != 14) = false := bne_eq_false_iff_eq.mpr c61
                    clear c61
                    by_cases c62 : x15_3 ≥ 0
                    ·rw [if_pos c62] at H
                     have c62b0 : decide (0 ≤ x15_3) = true := decide_eq_true c62
                     clear c62
                     by_cases c63 : t725 = 0
                     ·rw [if_pos c63] at H
                      have c63b0 : (t725 == 0) = true := beq_iff_eq.mpr c63
                      have c63b1 : (t725 != 0) = false := bne_eq_false_iff_eq.mpr c63
                      clear c63
                      have H' := Aside0.mk H
                      clear H
                      obtain ⟨Ao64, co64, eo64⟩ := Kd.R_slice HO_16.out
                      subst eo64
                      go_wp2_with (first | ((with_reducible refine gate_callee (f := 12) rfl ?_); refine goesL_ (some 143) rfl rfl Try.func12 (by kernel_rfl) rfl #[.int .i64 t671, .slice Ao64 x16_4.length co64] rfl (by (try simp only [List.map_toArray, List.map_cons, List.map_nil]); first | done | rfl | (simp only [List.length_drop, List.length_take]; rfl)) ?_; (with_reducible refine (bounds_Close.calls k4 t671 _ _ x16_4 t724 t725 _ ?side1 ?side2 A59.out).mono ?_); (case side1 => repeat (first | exact (Kd.R_reads' HO_16.out).2.2 | (with_reducible refine Kd.C_alloc ?_ _) | (with_reducible refine Kd.C_drewN ?_ _) | (with_reducible refine Kd.C_drew ?_))); (case side2 => exact (Kd.R_reads' HO_16.out).2.1); rintro e w65 ⟨v726, rfl, ho0, hb⟩; refine ⟨_, rfl, ?_⟩; have n0_ := Aside0.mk (Kd.R_below (by (with_reducible repeat (first | apply Kd.R_alloc | apply Kd.R_drewN | apply Kd.R_drew)); exact HO_6.out) hb); have n1_ := Aside0.mk (Kd.R_below (by (with_reducible repeat (first | apply Kd.R_alloc | apply Kd.R_drewN | apply Kd.R_drew)); exact HO_9.out) hb); have n2_ := Aside0.mk (Kd.R_below (by (with_reducible repeat (first | apply Kd.R_alloc | apply Kd.R_drewN | apply Kd.R_drew)); exact HO_16.out) hb); have n3_ := Aside0.mk (Kd.S_lower (Kd.S_new' ho0 (Kd.R_lt (by (with_reducible repeat (first | apply Kd.R_alloc | apply Kd.R_drewN | apply Kd.R_drew)); exact HO_9.out))) (below_size (by repeat (first | (with_reducible first | exact HB.out | apply below_alloc | apply pw_below_drewN | apply below_drew1) | exact HB.out)))); have n6_ := Aside0.mk (below_step (by repeat (first | (with_reducible first | exact HB.out | apply below_alloc | apply pw_below_drewN | apply below_drew1) | exact HB.out)) hb); clear HO_6; clear HO_9; clear HO_16; clear HB; have HO_6 := n0_; have HO_9 := n1_; have HO_16 := n2_; have HO727 := n3_; have HB := n6_; clear n0_ n1_ n2_ n3_ n6_; (try clear hb); (try clear hb2); (try clear hk); (try clear hi); (try clear ho0)))
                      go_roundg k4
                      case measure => have := HJ7.out; have := HJ27.out; have := HK3.out; have := HK4.out; omega
                      case rel => exact ⟨(wrap64 (x15_3 + 1)), (by first | rfl | (simp; done) | (simp [*]; done)), H', ⟨by have := HJ7.out; have := HJ27.out; have := HK3.out; have := HK4.out; omega⟩, ⟨by (with_reducible repeat (first | apply Kd.R_alloc | apply Kd.R_drewN | apply Kd.R_drew)); exact HO_6.out⟩, ⟨by (with_reducible repeat (first | apply Kd.R_alloc | apply Kd.R_drewN | apply Kd.R_drew)); exact HO_9.out⟩, ⟨by repeat (first | (with_reducible first | exact HB.out | apply below_alloc | apply pw_below_drewN | apply below_drew1) | exact HB.out)⟩⟩
                     ·rw [if_neg c63] at H
                      have c63b0 : (t725 == 0) = false := beq_eq_false_iff_ne.mpr c63
                      have c63b1 : (t725 != 0) = true := bne_iff_ne.mpr c63
                      exact absurd H (by rw [HT.out]; simp)
                    ·rw [if_neg c62] at H
                     have c62b0 : decide (0 ≤ x15_3) = false := decide_eq_false c62
                     clear c62
                     have H' := Aside0.mk H
                     clear H
                     obtain ⟨Ao66, co66, eo66⟩ := Kd.R_slice HO_16.out
                     subst eo66
                     go_wp2_with (first | ((with_reducible refine gate_callee (f := 12) rfl ?_); refine goesL_ (some 143) rfl rfl Try.func12 (by kernel_rfl) rfl #[.int .i64 t671, .slice Ao66 x16_4.length co66] rfl (by (try simp only [List.map_toArray, List.map_cons, List.map_nil]); first | done | rfl | (simp only [List.length_drop, List.length_take]; rfl)) ?_; (with_reducible refine (bounds_Close.calls k4 t671 _ _ x16_4 t724 t725 _ ?side1 ?side2 A59.out).mono ?_); (case side1 => repeat (first | exact (Kd.R_reads' HO_16.out).2.2 | (with_reducible refine Kd.C_alloc ?_ _) | (with_reducible refine Kd.C_drewN ?_ _) | (with_reducible refine Kd.C_drew ?_))); (case side2 => exact (Kd.R_reads' HO_16.out).2.1); rintro e w67 ⟨v726, rfl, ho0, hb⟩; refine ⟨_, rfl, ?_⟩; have n0_ := Aside0.mk (Kd.R_below (by (with_reducible repeat (first | apply Kd.R_alloc | apply Kd.R_drewN | apply Kd.R_drew)); exact HO_6.out) hb); have n1_ := Aside0.mk (Kd.R_below (by (with_reducible repeat (first | apply Kd.R_alloc | apply Kd.R_drewN | apply Kd.R_drew)); exact HO_9.out) hb); have n2_ := Aside0.mk (Kd.R_below (by (with_reducible repeat (first | apply Kd.R_alloc | apply Kd.R_drewN | apply Kd.R_drew)); exact HO_16.out) hb); have n3_ := Aside0.mk (Kd.S_lower (Kd.S_new' ho0 (Kd.R_lt (by (with_reducible repeat (first | apply Kd.R_alloc | apply Kd.R_drewN | apply Kd.R_drew)); exact HO_9.out))) (below_size (by repeat (first | (with_reducible first | exact HB.out | apply below_alloc | apply pw_below_drewN | apply below_drew1) | exact HB.out)))); have n6_ := Aside0.mk (below_step (by repeat (first | (with_reducible first | exact HB.out | apply below_alloc | apply pw_below_drewN | apply below_drew1) | exact HB.out)) hb); clear HO_6; clear HO_9; clear HO_16; clear HB; have HO_6 := n0_; have HO_9 := n1_; have HO_16 := n2_; have HO727 := n3_; have HB := n6_; clear n0_ n1_ n2_ n3_ n6_; (try clear hb); (try clear hb2); (try clear hk); (try clear hi); (try clear ho0)))
                     go_roundg k4
                     case measure => have := HJ7.out; have := HJ27.out; have := HK3.out; have := HK4.out; omega
                     case rel => exact ⟨(wrap64 (x15_3 + 1)), (by first | rfl | (simp; done) | (simp [*]; done)), H', ⟨by have := HJ7.out; have := HJ27.out; have := HK3.out; have := HK4.out; omega⟩, ⟨by (with_reducible repeat (first | apply Kd.R_alloc | apply Kd.R_drewN | apply Kd.R_drew)); exact HO_6.out⟩, ⟨by (with_reducible repeat (first | apply Kd.R_alloc | apply Kd.R_drewN | apply Kd.R_drew)); exact HO_9.out⟩, ⟨by repeat (first | (with_reducible first | exact HB.out | apply below_alloc | apply pw_below_drewN | apply below_drew1) | exact HB.out)⟩⟩
                   ·rw [if_neg c61] at H
                    have c61b0 : (t725 == 14) = false := beq_eq_false_iff_ne.mpr c61
                    have c61b1 : (t725 != 14) = true := bne_iff_ne.mpr c61
                    exact absurd H (by rw [HT.out]; simp)
                  ·rw [if_neg c60] at H
                   have c60b0 : decide (x15_3 < 0) = false := decide_eq_false c60
                   clear c60
                   by_cases c68 : x15_3 ≥ 0
                   ·rw [if_pos c68] at H
                    have c68b0 : decide (0 ≤ x15_3) = true := decide_eq_true c68
                    clear c68
                    by_cases c69 : t725 = 0
                    ·rw [if_pos c69] at H
                     have c69b0 : (t725 == 0) = true := beq_iff_eq.mpr c69
                     have c69b1 : (t725 != 0) = false := bne_eq_false_iff_eq.mpr c69
                     clear c69
                     have H' := Aside0.mk H
                     clear H
                     obtain ⟨Ao70, co70, eo70⟩ := Kd.R_slice HO_16.out
                     subst eo70
                     go_wp2_with (first | ((with_reducible refine gate_callee (f := 12) rfl ?_); refine goesL_ (some 143) rfl rfl Try.func12 (by kernel_rfl) rfl #[.int .i64 t671, .slice Ao70 x16_4.length co70] rfl (by (try simp only [List.map_toArray, List.map_cons, List.map_nil]); first | done | rfl | (simp only [List.length_drop, List.length_take]; rfl)) ?_; (with_reducible refine (bounds_Close.calls k4 t671 _ _ x16_4 t724 t725 _ ?side1 ?side2 A59.out).mono ?_); (case side1 => repeat (first | exact (Kd.R_reads' HO_16.out).2.2 | (with_reducible refine Kd.C_alloc ?_ _) | (with_reducible refine Kd.C_drewN ?_ _) | (with_reducible refine Kd.C_drew ?_))); (case side2 => exact (Kd.R_reads' HO_16.out).2.1); rintro e w71 ⟨v726, rfl, ho0, hb⟩; refine ⟨_, rfl, ?_⟩; have n0_ := Aside0.mk (Kd.R_below (by (with_reducible repeat (first | apply Kd.R_alloc | apply Kd.R_drewN | apply Kd.R_drew)); exact HO_6.out) hb); have n1_ := Aside0.mk (Kd.R_below (by (with_reducible repeat (first | apply Kd.R_alloc | apply Kd.R_drewN | apply Kd.R_drew)); exact HO_9.out) hb); have n2_ := Aside0.mk (Kd.R_below (by (with_reducible repeat (first | apply Kd.R_alloc | apply Kd.R_drewN | apply Kd.R_drew)); exact HO_16.out) hb); have n3_ := Aside0.mk (Kd.S_lower (Kd.S_new' ho0 (Kd.R_lt (by (with_reducible repeat (first | apply Kd.R_alloc | apply Kd.R_drewN | apply Kd.R_drew)); exact HO_9.out))) (below_size (by repeat (first | (with_reducible first | exact HB.out | apply below_alloc | apply pw_below_drewN | apply below_drew1) | exact HB.out)))); have n6_ := Aside0.mk (below_step (by repeat (first | (with_reducible first | exact HB.out | apply below_alloc | apply pw_below_drewN | apply below_drew1) | exact HB.out)) hb); clear HO_6; clear HO_9; clear HO_16; clear HB; have HO_6 := n0_; have HO_9 := n1_; have HO_16 := n2_; have HO727 := n3_; have HB := n6_; clear n0_ n1_ n2_ n3_ n6_; (try clear hb); (try clear hb2); (try clear hk); (try clear hi); (try clear ho0)))
                     go_roundg k4
                     case measure => have := HJ7.out; have := HJ27.out; have := HK3.out; have := HK4.out; omega
                     case rel => exact ⟨(wrap64 (x15_3 + 1)), (by first | rfl | (simp; done) | (simp [*]; done)), H', ⟨by have := HJ7.out; have := HJ27.out; have := HK3.out; have := HK4.out; omega⟩, ⟨by (with_reducible repeat (first | apply Kd.R_alloc | apply Kd.R_drewN | apply Kd.R_drew)); exact HO_6.out⟩, ⟨by (with_reducible repeat (first | apply Kd.R_alloc | apply Kd.R_drewN | apply Kd.R_drew)); exact HO_9.out⟩, ⟨by repeat (first | (with_reducible first | exact HB.out | apply below_alloc | apply pw_below_drewN | apply below_drew1) | exact HB.out)⟩⟩
                    ·rw [if_neg c69] at H
                     have c69b0 : (t725 == 0) = false := beq_eq_false_iff_ne.mpr c69
                     have c69b1 : (t725 != 0) = true := bne_iff_ne.mpr c69
                     exact absurd H (by rw [HT.out]; simp)
                   ·rw [if_neg c68] at H
                    have c68b0 : decide (0 ≤ x15_3) = false := decide_eq_false c68
                    clear c68
                    have H' := Aside0.mk H
                    clear H
                    obtain ⟨Ao72, co72, eo72⟩ := Kd.R_slice HO_16.out
                    subst eo72
                    go_wp2_with (first | ((with_reducible refine gate_callee (f := 12) rfl ?_); refine goesL_ (some 143) rfl rfl Try.func12 (by kernel_rfl) rfl #[.int .i64 t671, .slice Ao72 x16_4.length co72] rfl (by (try simp only [List.map_toArray, List.map_cons, List.map_nil]); first | done | rfl | (simp only [List.length_drop, List.length_take]; rfl)) ?_; (with_reducible refine (bounds_Close.calls k4 t671 _ _ x16_4 t724 t725 _ ?side1 ?side2 A59.out).mono ?_); (case side1 => repeat (first | exact (Kd.R_reads' HO_16.out).2.2 | (with_reducible refine Kd.C_alloc ?_ _) | (with_reducible refine Kd.C_drewN ?_ _) | (with_reducible refine Kd.C_drew ?_))); (case side2 => exact (Kd.R_reads' HO_16.out).2.1); rintro e w73 ⟨v726, rfl, ho0, hb⟩; refine ⟨_, rfl, ?_⟩; have n0_ := Aside0.mk (Kd.R_below (by (with_reducible repeat (first | apply Kd.R_alloc | apply Kd.R_drewN | apply Kd.R_drew)); exact HO_6.out) hb); have n1_ := Aside0.mk (Kd.R_below (by (with_reducible repeat (first | apply Kd.R_alloc | apply Kd.R_drewN | apply Kd.R_drew)); exact HO_9.out) hb); have n2_ := Aside0.mk (Kd.R_below (by (with_reducible repeat (first | apply Kd.R_alloc | apply Kd.R_drewN | apply Kd.R_drew)); exact HO_16.out) hb); have n3_ := Aside0.mk (Kd.S_lower (Kd.S_new' ho0 (Kd.R_lt (by (with_reducible repeat (first | apply Kd.R_alloc | apply Kd.R_drewN | apply Kd.R_drew)); exact HO_9.out))) (below_size (by repeat (first | (with_reducible first | exact HB.out | apply below_alloc | apply pw_below_drewN | apply below_drew1) | exact HB.out)))); have n6_ := Aside0.mk (below_step (by repeat (first | (with_reducible first | exact HB.out | apply below_alloc | apply pw_below_drewN | apply below_drew1) | exact HB.out)) hb); clear HO_6; clear HO_9; clear HO_16; clear HB; have HO_6 := n0_; have HO_9 := n1_; have HO_16 := n2_; have HO727 := n3_; have HB := n6_; clear n0_ n1_ n2_ n3_ n6_; (try clear hb); (try clear hb2); (try clear hk); (try clear hi); (try clear ho0)))
                    go_roundg k4
                    case measure => have := HJ7.out; have := HJ27.out; have := HK3.out; have := HK4.out; omega
                    case rel => exact ⟨(wrap64 (x15_3 + 1)), (by first | rfl | (simp; done) | (simp [*]; done)), H', ⟨by have := HJ7.out; have := HJ27.out; have := HK3.out; have := HK4.out; omega⟩, ⟨by (with_reducible repeat (first | apply Kd.R_alloc | apply Kd.R_drewN | apply Kd.R_drew)); exact HO_6.out⟩, ⟨by (with_reducible repeat (first | apply Kd.R_alloc | apply Kd.R_drewN | apply Kd.R_drew)); exact HO_9.out⟩, ⟨by repeat (first | (with_reducible first | exact HB.out | apply below_alloc | apply pw_below_drewN | apply below_drew1) | exact HB.out)⟩⟩
                 ·rw [if_neg c58] at H
                  have c58b0 : (t686 == 0) = false := beq_eq_false_iff_ne.mpr c58
                  have c58b1 : (t686 != 0) = true := bne_iff_ne.mpr c58
                  replace H := Option.bind_eq_some_iff.mp H
                  obtain ⟨t728, A740, H⟩ := H
                  replace H : (some t728) = some r := H
                  have A74 := Aside0.mk A740
                  clear A740
                  obtain rfl := Option.some.inj H
                  go_wp2_with (first | ((with_reducible refine gate_callee (f := 19) rfl ?_); refine goesL_ (some 160) rfl rfl Try.func19 (by kernel_rfl) rfl #[] rfl (by (try simp only [List.map_toArray, List.map_cons, List.map_nil]); first | done | rfl | (simp only [List.length_drop, List.length_take]; rfl)) ?_; (with_reducible refine (l14_lives.calls k4  t728 _ A74.out).mono ?_); rintro e w75 ⟨rfl, hb⟩; refine ⟨_, rfl, ?_⟩; have n0_ := Aside0.mk (Kd.R_below (by (with_reducible repeat (first | apply Kd.R_alloc | apply Kd.R_drewN | apply Kd.R_drew)); exact HO_6.out) hb); have n1_ := Aside0.mk (Kd.R_below (by (with_reducible repeat (first | apply Kd.R_alloc | apply Kd.R_drewN | apply Kd.R_drew)); exact HO_9.out) hb); have n2_ := Aside0.mk (Kd.R_below (by (with_reducible repeat (first | apply Kd.R_alloc | apply Kd.R_drewN | apply Kd.R_drew)); exact HO_16.out) hb); have n5_ := Aside0.mk (below_step (by repeat (first | (with_reducible first | exact HB.out | apply below_alloc | apply pw_below_drewN | apply below_drew1) | exact HB.out)) hb); clear HO_6; clear HO_9; clear HO_16; clear HB; have HO_6 := n0_; have HO_9 := n1_; have HO_16 := n2_; have HB := n5_; clear n0_ n1_ n2_ n5_; (try clear hb); (try clear hb2); (try clear hk); (try clear hi)))
                  go_ret
                  exact ⟨by first | rfl | (simp [errW_none, errW_some] <;> rfl) | (simp [*, errW_none, errW_some] <;> rfl), by repeat (first | (with_reducible first | exact HB.out | apply below_alloc | apply pw_below_drewN | apply below_drew1) | exact HB.out)⟩
             ·rw [if_neg c43] at H
              have c43b0 : decide (x15_3 < (t685.length : Int)) = false := decide_eq_false c43
              clear c43
              replace H := Option.bind_eq_some_iff.mp H
              obtain ⟨t712, A760, H⟩ := H
              replace H : (some t712) = some r := H
              have A76 := Aside0.mk A760
              clear A760
              obtain rfl := Option.some.inj H
              obtain ⟨Ao77, co77, eo77⟩ := Kd.R_slice HO_9.out
              subst eo77
              go_wp2_with (first | ((with_reducible refine gate_callee (f := 19) rfl ?_); refine goesL_ (some 160) rfl rfl Try.func19 (by kernel_rfl) rfl #[] rfl (by (try simp only [List.map_toArray, List.map_cons, List.map_nil]); first | done | rfl | (simp only [List.length_drop, List.length_take]; rfl)) ?_; (with_reducible refine (l14_lives.calls k3  t712 _ A76.out).mono ?_); rintro e w78 ⟨rfl, hb⟩; refine ⟨_, rfl, ?_⟩; have n0_ := Aside0.mk (Kd.R_below (by (with_reducible repeat (first | apply Kd.R_alloc | apply Kd.R_drewN | apply Kd.R_drew)); exact HO_6.out) hb); have n1_ := Aside0.mk (Kd.R_below (by (with_reducible repeat (first | apply Kd.R_alloc | apply Kd.R_drewN | apply Kd.R_drew)); exact HO_9.out) hb); have n4_ := Aside0.mk (below_step (by repeat (first | (with_reducible first | exact HB.out | apply below_alloc | apply pw_below_drewN | apply below_drew1) | exact HB.out)) hb); clear HO_6; clear HO_9; clear HB; have HO_6 := n0_; have HO_9 := n1_; have HB := n4_; clear n0_ n1_ n4_; (try clear hb); (try clear hb2); (try clear hk); (try clear hi)))
              go_ret
              exact ⟨by first | rfl | (simp [errW_none, errW_some] <;> rfl) | (simp [*, errW_none, errW_some] <;> rfl), by repeat (first | (with_reducible first | exact HB.out | apply below_alloc | apply pw_below_drewN | apply below_drew1) | exact HB.out)⟩
       ·rw [if_neg c25] at H
        exact absurd H (by simp)
      ·rw [if_neg c22] at H
       exact absurd H (by simp)
     ·rw [if_neg c21] at H
      exact absurd H (by simp)
    ·rw [if_neg c20] at H
     exact absurd H (by simp)

/-- THE ONE PURE STATEMENT of l14_BoundsContradiction: yours. -/
def l14_BoundsContradiction.Pure : Prop := ∀ (l0 : List Int) (a1 : Int), l0.length ≤ maxLen → l0.length * 8 ≤ 140737488351232 → (∀ x ∈ l0, (Lit.int .i64 x).wf = true) → (Lit.int .i64 a1).wf = true → ∃ k, l14_BoundsContradiction.f k l0 a1 = some true
theorem l14_BoundsContradiction.walk (P : l14_BoundsContradiction.Pure) (a0 : Option Addr) (len0 cap0 : Nat) (z0 : List Int) (a1 : Int) (w : World) (w0 : (a0 = none ∧ len0 = 0 ∧ cap0 = 0 ∧ z0 = []) ∨ ∃ x, a0 = some x ∧ len0 ≤ cap0 ∧ cap0 ≤ maxLen ∧ z0.length = cap0 ∧ (∀ i, i < z0.length → w.cell? (x.add i) = some (.int .i64 (z0.getD i 0))) ∧ ∀ n ∈ z0, (Lit.int .i64 n).wf = true) (y0 : len0 * 8 ≤ 140737488351232) (w1 : (Lit.int .i64 a1).wf = true) :
  Calls Try.prog 7 #[.slice a0 len0 cap0, .int .i64 a1] w fun e w' => e = .returned (.bool true) ∧ Below w.heap.size w w' := by
 obtain ⟨l0, rfl, hr0, hm0, hw0, hc0⟩ := ReadsInt.ofRowC w0
 obtain ⟨k, h⟩ := P l0 a1 hm0 y0 hw0 w1
 refine (l14_BoundsContradiction.calls k _ _ l0 a1 true w (Kd.C_of_reads (d := (0 : Int)) (h1 := fun _ => rfl) hr0) hc0 h rfl).mono ?_
 rintro e w' ⟨rfl, hd⟩
 exact ⟨rfl, hd⟩

end Go.Proofs.Ytcnkjcbjlopkmaa.Q
