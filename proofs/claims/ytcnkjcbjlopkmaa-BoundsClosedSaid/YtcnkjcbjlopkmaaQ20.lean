-- Written out of the translation by a program of this session (wip/tools/myprint.py, over the kit's print). Lean checks it.
import Derived.Test.YtcnkjcbjlopkmaaQ0
import Derived.Test.YtcnkjcbjlopkmaaQ1
import Derived.Test.YtcnkjcbjlopkmaaQ5
import Derived.Test.YtcnkjcbjlopkmaaQ11
import Derived.Test.YtcnkjcbjlopkmaaQ12
namespace Go.Proofs.Ytcnkjcbjlopkmaa.Q
open Go.RowKit Go.Proofs.YtcnkjcbjlopkmaaW.PrintWords Go.Proofs.YtcnkjcbjlopkmaaW.PrintLast Go.Proofs.YtcnkjcbjlopkmaaW.PrintMore
attribute [local go_sem] max2_int min2_int max_two min_two max_three min_three max_four min_four   -- for this text's walks alone
set_option linter.unusedVariables false
set_option linter.unusedSimpArgs false

/-! ### l14_BoundsClosed: function 8 -/
mutual
def l14_BoundsClosed.l0 : Nat → Int → List (List Int) → Int → Option (Bool)
 | 0, _, _, _ => none
 | k + 1, x3, x5, x7 => if x7 ≤ x3 then (if 0 ≤ x7 then (if x7 < (x5.length : Int) then (if ((rd_L4 x5 x7).length : Int) = (wrap64 (x3 + 1)) then (l14_BoundsClosed.l0 k x3 x5 (wrap64 (x7 + 1))) else (some false)) else (none)) else (none)) else (l14_BoundsClosed.l1 k x3 x5 ([] : List (S55)) 0)
def l14_BoundsClosed.l1 : Nat → Int → List (List Int) → List (S55) → Int → Option (Bool)
 | 0, _, _, _, _ => none
 | k + 1, x3, x5, x8, x9 => if x9 ≤ x3 then (if 0 ≤ x9 then (if x9 < (x5.length : Int) then (if x9 < ((rd_L4 x5 x9).length : Int) then (if (rd (rd_L4 x5 x9) x9) = 0 then (l14_BoundsClosed.l2 k x3 x5 x8 x9 0) else (some false)) else (none)) else (none)) else (none)) else ((bounds_Close.f k x3 x8).bind fun bt742 => (if bt742.2 = 0 then ((r14_SameTables.f k bt742.1 x5).bind fun t746 => (if t746 = true then ((l14_lives.f k).bind fun t747 => (some t747)) else (some false))) else (some false)))
def l14_BoundsClosed.l2 : Nat → Int → List (List Int) → List (S55) → Int → Int → Option (Bool)
 | 0, _, _, _, _, _ => none
 | k + 1, x3, x5, x8, x9, x10 => if x10 ≤ x3 then (l14_BoundsClosed.l3 k x3 x5 x8 x9 x10 0) else (l14_BoundsClosed.l1 k x3 x5 x8 (wrap64 (x9 + 1)))
def l14_BoundsClosed.l3 : Nat → Int → List (List Int) → List (S55) → Int → Int → Int → Option (Bool)
 | 0, _, _, _, _, _, _ => none
 | k + 1, x3, x5, x8, x9, x10, x11 => if x11 ≤ x3 then (if 0 ≤ x9 then (if x9 < (x5.length : Int) then (if 0 ≤ x11 then (if x11 < ((rd_L4 x5 x9).length : Int) then (if (rd (rd_L4 x5 x9) x11) < 1099511627776 then (if x11 < (x5.length : Int) then (if 0 ≤ x10 then (if x10 < ((rd_L4 x5 x11).length : Int) then (if (rd (rd_L4 x5 x11) x10) < 1099511627776 then (if x10 < ((rd_L4 x5 x9).length : Int) then (if (rd (rd_L4 x5 x9) x10) > (wrap64 ((rd (rd_L4 x5 x9) x11) + (rd (rd_L4 x5 x11) x10))) then (some false) else (l14_BoundsClosed.l3 k x3 x5 x8 x9 x10 (wrap64 (x11 + 1)))) else (none)) else (l14_BoundsClosed.l3 k x3 x5 x8 x9 x10 (wrap64 (x11 + 1)))) else (none)) else (none)) else (none)) else (l14_BoundsClosed.l3 k x3 x5 x8 x9 x10 (wrap64 (x11 + 1)))) else (none)) else (none)) else (none)) else (none)) else (if x9 = x10 then (l14_BoundsClosed.j4 k x3 x5 x8 x9 x10 false) else (if 0 ≤ x9 then (if x9 < (x5.length : Int) then (if 0 ≤ x10 then (if x10 < ((rd_L4 x5 x9).length : Int) then (l14_BoundsClosed.j4 k x3 x5 x8 x9 x10 (decide ((rd (rd_L4 x5 x9) x10) < 1099511627776))) else (none)) else (none)) else (none)) else (none)))
def l14_BoundsClosed.j4 : Nat → Int → List (List Int) → List (S55) → Int → Int → Bool → Option (Bool)
 | 0, _, _, _, _, _, _ => none
 | k + 1, x3, x5, x8, x9, x10, x135 => if x135 = true then (if 0 ≤ x9 then (if x9 < (x5.length : Int) then (if 0 ≤ x10 then (if x10 < ((rd_L4 x5 x9).length : Int) then (if x9 = x3 then (if x10 = x3 then (if x8.length < 5864062014805 then (l14_BoundsClosed.l2 k x3 x5 (x8 ++ [(⟨(-1), (-1), rd (rd_L4 x5 x9) x10⟩ : S55)]) x9 (wrap64 (x10 + 1))) else (none)) else (if x8.length < 5864062014805 then (l14_BoundsClosed.l2 k x3 x5 (x8 ++ [(⟨(-1), x10, rd (rd_L4 x5 x9) x10⟩ : S55)]) x9 (wrap64 (x10 + 1))) else (none))) else (if x10 = x3 then (if x8.length < 5864062014805 then (l14_BoundsClosed.l2 k x3 x5 (x8 ++ [(⟨x9, (-1), rd (rd_L4 x5 x9) x10⟩ : S55)]) x9 (wrap64 (x10 + 1))) else (none)) else (if x8.length < 5864062014805 then (l14_BoundsClosed.l2 k x3 x5 (x8 ++ [(⟨x9, x10, rd (rd_L4 x5 x9) x10⟩ : S55)]) x9 (wrap64 (x10 + 1))) else (none)))) else (none)) else (none)) else (none)) else (none)) else (l14_BoundsClosed.l2 k x3 x5 x8 x9 (wrap64 (x10 + 1)))
end
def l14_BoundsClosed.f (k : Nat) (l0 : List Int) : Option (Bool) := (r14_Made.f k l0).bind fun bt729 => ((l14_own.f k bt729.2).bind fun t733 => ((bounds_Close.f k bt729.1 t733).bind fun bt736 => (if bt736.2 = 0 then (if (bt736.1.length : Int) = (wrap64 (bt729.1 + 1)) then (l14_BoundsClosed.l0 k bt729.1 bt736.1 0) else (some false)) else (if bt736.2 = 14 then (if (bt736.1.length : Int) = 0 then ((l14_lives.f k).bind fun t740 => (some t740)) else (some false)) else (some false)))))
theorem l14_BoundsClosed.mono_l : ∀ k, (∀ y0 y1 y2, LeO (l14_BoundsClosed.l0 k y0 y1 y2) (l14_BoundsClosed.l0 (k + 1) y0 y1 y2)) ∧ (∀ y0 y1 y2 y3, LeO (l14_BoundsClosed.l1 k y0 y1 y2 y3) (l14_BoundsClosed.l1 (k + 1) y0 y1 y2 y3)) ∧ (∀ y0 y1 y2 y3 y4, LeO (l14_BoundsClosed.l2 k y0 y1 y2 y3 y4) (l14_BoundsClosed.l2 (k + 1) y0 y1 y2 y3 y4)) ∧ (∀ y0 y1 y2 y3 y4 y5, LeO (l14_BoundsClosed.l3 k y0 y1 y2 y3 y4 y5) (l14_BoundsClosed.l3 (k + 1) y0 y1 y2 y3 y4 y5)) ∧ (∀ y0 y1 y2 y3 y4 y5, LeO (l14_BoundsClosed.j4 k y0 y1 y2 y3 y4 y5) (l14_BoundsClosed.j4 (k + 1) y0 y1 y2 y3 y4 y5))
 | 0 => ⟨fun _ _ _ r h => by simp [l14_BoundsClosed.l0] at h, fun _ _ _ _ r h => by simp [l14_BoundsClosed.l1] at h, fun _ _ _ _ _ r h => by simp [l14_BoundsClosed.l2] at h, fun _ _ _ _ _ _ r h => by simp [l14_BoundsClosed.l3] at h, fun _ _ _ _ _ _ r h => by simp [l14_BoundsClosed.j4] at h⟩
 | k + 1 => by
  obtain ⟨ih0, ih1, ih2, ih3, ih4⟩ := l14_BoundsClosed.mono_l k
  refine ⟨?_, ?_, ?_, ?_, ?_⟩
  ·intro y0 y1 y2
   unfold l14_BoundsClosed.l0
   repeat' first
   | (with_reducible exact ih0 _ _ _)
   | (with_reducible exact ih1 _ _ _ _)
   | (with_reducible exact ih2 _ _ _ _ _)
   | (with_reducible exact ih3 _ _ _ _ _ _)
   | (with_reducible exact ih4 _ _ _ _ _ _)
   | (with_reducible exact bounds_Close.mono _ _ _)
   | (with_reducible exact l14_lives.mono _)
   | (with_reducible exact l14_own.mono _ _)
   | (with_reducible exact r14_Made.mono _ _)
   | (with_reducible exact r14_SameTables.mono _ _ _)
   | (with_reducible exact LeO.refl _)
   | (with_reducible exact LeO.none _)
   | (with_reducible refine LeO.ite ?_ ?_)
   | (with_reducible refine LeO.bind ?_ (fun _ => ?_))
   | exact ih0 _ _ _
   | exact ih1 _ _ _ _
   | exact ih2 _ _ _ _ _
   | exact ih3 _ _ _ _ _ _
   | exact ih4 _ _ _ _ _ _
   | exact bounds_Close.mono _ _ _
   | exact l14_lives.mono _
   | exact l14_own.mono _ _
   | exact r14_Made.mono _ _
   | exact r14_SameTables.mono _ _ _
   | exact LeO.none _
   | refine LeO.ite ?_ ?_
   | refine LeO.bind ?_ (fun _ => ?_)
  ·intro y0 y1 y2 y3
   unfold l14_BoundsClosed.l1
   repeat' first
   | (with_reducible exact ih0 _ _ _)
   | (with_reducible exact ih1 _ _ _ _)
   | (with_reducible exact ih2 _ _ _ _ _)
   | (with_reducible exact ih3 _ _ _ _ _ _)
   | (with_reducible exact ih4 _ _ _ _ _ _)
   | (with_reducible exact bounds_Close.mono _ _ _)
   | (with_reducible exact l14_lives.mono _)
   | (with_reducible exact l14_own.mono _ _)
   | (with_reducible exact r14_Made.mono _ _)
   | (with_reducible exact r14_SameTables.mono _ _ _)
   | (with_reducible exact LeO.refl _)
   | (with_reducible exact LeO.none _)
   | (with_reducible refine LeO.ite ?_ ?_)
   | (with_reducible refine LeO.bind ?_ (fun _ => ?_))
   | exact ih0 _ _ _
   | exact ih1 _ _ _ _
   | exact ih2 _ _ _ _ _
   | exact ih3 _ _ _ _ _ _
   | exact ih4 _ _ _ _ _ _
   | exact bounds_Close.mono _ _ _
   | exact l14_lives.mono _
   | exact l14_own.mono _ _
   | exact r14_Made.mono _ _
   | exact r14_SameTables.mono _ _ _
   | exact LeO.none _
   | refine LeO.ite ?_ ?_
   | refine LeO.bind ?_ (fun _ => ?_)
  ·intro y0 y1 y2 y3 y4
   unfold l14_BoundsClosed.l2
   repeat' first
   | (with_reducible exact ih0 _ _ _)
   | (with_reducible exact ih1 _ _ _ _)
   | (with_reducible exact ih2 _ _ _ _ _)
   | (with_reducible exact ih3 _ _ _ _ _ _)
   | (with_reducible exact ih4 _ _ _ _ _ _)
   | (with_reducible exact bounds_Close.mono _ _ _)
   | (with_reducible exact l14_lives.mono _)
   | (with_reducible exact l14_own.mono _ _)
   | (with_reducible exact r14_Made.mono _ _)
   | (with_reducible exact r14_SameTables.mono _ _ _)
   | (with_reducible exact LeO.refl _)
   | (with_reducible exact LeO.none _)
   | (with_reducible refine LeO.ite ?_ ?_)
   | (with_reducible refine LeO.bind ?_ (fun _ => ?_))
   | exact ih0 _ _ _
   | exact ih1 _ _ _ _
   | exact ih2 _ _ _ _ _
   | exact ih3 _ _ _ _ _ _
   | exact ih4 _ _ _ _ _ _
   | exact bounds_Close.mono _ _ _
   | exact l14_lives.mono _
   | exact l14_own.mono _ _
   | exact r14_Made.mono _ _
   | exact r14_SameTables.mono _ _ _
   | exact LeO.none _
   | refine LeO.ite ?_ ?_
   | refine LeO.bind ?_ (fun _ => ?_)
  ·intro y0 y1 y2 y3 y4 y5
   unfold l14_BoundsClosed.l3
   repeat' first
   | (with_reducible exact ih0 _ _ _)
   | (with_reducible exact ih1 _ _ _ _)
   | (with_reducible exact ih2 _ _ _ _ _)
   | (with_reducible exact ih3 _ _ _ _ _ _)
   | (with_reducible exact ih4 _ _ _ _ _ _)
   | (with_reducible exact bounds_Close.mono _ _ _)
   | (with_reducible exact l14_lives.mono _)
   | (with_reducible exact l14_own.mono _ _)
   | (with_reducible exact r14_Made.mono _ _)
   | (with_reducible exact r14_SameTables.mono _ _ _)
   | (with_reducible exact LeO.refl _)
   | (with_reducible exact LeO.none _)
   | (with_reducible refine LeO.ite ?_ ?_)
   | (with_reducible refine LeO.bind ?_ (fun _ => ?_))
   | exact ih0 _ _ _
   | exact ih1 _ _ _ _
   | exact ih2 _ _ _ _ _
   | exact ih3 _ _ _ _ _ _
   | exact ih4 _ _ _ _ _ _
   | exact bounds_Close.mono _ _ _
   | exact l14_lives.mono _
   | exact l14_own.mono _ _
   | exact r14_Made.mono _ _
   | exact r14_SameTables.mono _ _ _
   | exact LeO.none _
   | refine LeO.ite ?_ ?_
   | refine LeO.bind ?_ (fun _ => ?_)
  ·intro y0 y1 y2 y3 y4 y5
   unfold l14_BoundsClosed.j4
   repeat' first
   | (with_reducible exact ih0 _ _ _)
   | (with_reducible exact ih1 _ _ _ _)
   | (with_reducible exact ih2 _ _ _ _ _)
   | (with_reducible exact ih3 _ _ _ _ _ _)
   | (with_reducible exact ih4 _ _ _ _ _ _)
   | (with_reducible exact bounds_Close.mono _ _ _)
   | (with_reducible exact l14_lives.mono _)
   | (with_reducible exact l14_own.mono _ _)
   | (with_reducible exact r14_Made.mono _ _)
   | (with_reducible exact r14_SameTables.mono _ _ _)
   | (with_reducible exact LeO.refl _)
   | (with_reducible exact LeO.none _)
   | (with_reducible refine LeO.ite ?_ ?_)
   | (with_reducible refine LeO.bind ?_ (fun _ => ?_))
   | exact ih0 _ _ _
   | exact ih1 _ _ _ _
   | exact ih2 _ _ _ _ _
   | exact ih3 _ _ _ _ _ _
   | exact ih4 _ _ _ _ _ _
   | exact bounds_Close.mono _ _ _
   | exact l14_lives.mono _
   | exact l14_own.mono _ _
   | exact r14_Made.mono _ _
   | exact r14_SameTables.mono _ _ _
   | exact LeO.none _
   | refine LeO.ite ?_ ?_
   | refine LeO.bind ?_ (fun _ => ?_)
theorem l14_BoundsClosed.mono : ∀ a0 k, LeO (l14_BoundsClosed.f k a0) (l14_BoundsClosed.f (k + 1) a0) := by
 intro a0 k
 obtain ⟨ih0, ih1, ih2, ih3, ih4⟩ := l14_BoundsClosed.mono_l k
 unfold l14_BoundsClosed.f
 repeat' first
   | (with_reducible exact ih0 _ _ _)
   | (with_reducible exact ih1 _ _ _ _)
   | (with_reducible exact ih2 _ _ _ _ _)
   | (with_reducible exact ih3 _ _ _ _ _ _)
   | (with_reducible exact ih4 _ _ _ _ _ _)
   | (with_reducible exact bounds_Close.mono _ _ _)
   | (with_reducible exact l14_lives.mono _)
   | (with_reducible exact l14_own.mono _ _)
   | (with_reducible exact r14_Made.mono _ _)
   | (with_reducible exact r14_SameTables.mono _ _ _)
   | (with_reducible exact LeO.refl _)
   | (with_reducible exact LeO.none _)
   | (with_reducible refine LeO.ite ?_ ?_)
   | (with_reducible refine LeO.bind ?_ (fun _ => ?_))
   | exact ih0 _ _ _
   | exact ih1 _ _ _ _
   | exact ih2 _ _ _ _ _
   | exact ih3 _ _ _ _ _ _
   | exact ih4 _ _ _ _ _ _
   | exact bounds_Close.mono _ _ _
   | exact l14_lives.mono _
   | exact l14_own.mono _ _
   | exact r14_Made.mono _ _
   | exact r14_SameTables.mono _ _ _
   | exact LeO.none _
   | refine LeO.ite ?_ ?_
   | refine LeO.bind ?_ (fun _ => ?_)
/-- What the loop of Closed holds while a difference is being turned: the box of the difference, the table, the list. -/
structure InvG (w : World) (gb : Nat) (vt : Value) (tb : List (List Int)) (vx : Value) (x : List S55) (a b c : Int) (W : World) : Prop where
 k : W.heap[gb]? = some (.cells #[.int .i64 a, .int .i64 b, .int .i64 c] 55 (0, 0))
 d : Kd.S (Kd.slice 3 (Kd.int .i64)) 22 W w.heap.size (fun k => k ≠ gb) vt tb
 x : Kd.R k55 55 W w.heap.size (fun k => k ≠ gb) vx x
 b : Below w.heap.size w W
 g : w.heap.size ≤ gb
theorem InvG.put0 {w : World} {gb : Nat} {vt : Value} {tb : List (List Int)} {vx : Value} {x : List S55} {a b c : Int} {W : World} (h : InvG w gb vt tb vx x a b c W) (u : Int) : InvG w gb vt tb vx x u b c (W.setCell ⟨gb, 0, none⟩ (.int .i64 u)) :=
 ⟨blk_put h.k 0 _ rfl, Kd.S_far (p := ⟨gb, 0, none⟩) h.d (fun _ hk => hk) _, Kd.R_far (p := ⟨gb, 0, none⟩) h.x (fun _ hk => hk) _, below_set h.b h.g, h.g⟩
theorem InvG.put1 {w : World} {gb : Nat} {vt : Value} {tb : List (List Int)} {vx : Value} {x : List S55} {a b c : Int} {W : World} (h : InvG w gb vt tb vx x a b c W) (u : Int) : InvG w gb vt tb vx x a u c (W.setCell ⟨gb, 1, none⟩ (.int .i64 u)) :=
 ⟨blk_put h.k 1 _ rfl, Kd.S_far (p := ⟨gb, 1, none⟩) h.d (fun _ hk => hk) _, Kd.R_far (p := ⟨gb, 1, none⟩) h.x (fun _ hk => hk) _, below_set h.b h.g, h.g⟩
theorem InvG.put2 {w : World} {gb : Nat} {vt : Value} {tb : List (List Int)} {vx : Value} {x : List S55} {a b c : Int} {W : World} (h : InvG w gb vt tb vx x a b c W) (u : Int) : InvG w gb vt tb vx x a b u (W.setCell ⟨gb, 2, none⟩ (.int .i64 u)) :=
 ⟨blk_put h.k 2 _ rfl, Kd.S_far (p := ⟨gb, 2, none⟩) h.d (fun _ hk => hk) _, Kd.R_far (p := ⟨gb, 2, none⟩) h.x (fun _ hk => hk) _, below_set h.b h.g, h.g⟩
set_option maxHeartbeats 8000000 in
set_option maxRecDepth 100000 in
theorem l14_BoundsClosed.calls (k : Nat) (A0 : Option Addr) (c0 : Nat) (l0 : List Int) (r : Bool) (w : World) (hr0 : Kd.C (Kd.int .i64) w A0 l0.length l0) (hc0 : l0.length ≤ c0) (h : l14_BoundsClosed.f k l0 = some r) (ht : r = true) :
  Calls Try.prog 8 #[.slice A0 l0.length c0] w fun e w' => e = .returned (.bool r) ∧ Below w.heap.size w w' := by
 have HT := Aside0.mk ht
 clear ht
 have hu55 := Try.underlying55
 have HR0 := Aside0.mk hr0
 have HC0 := Aside0.mk hc0
 clear hr0 hc0
 have HB := Aside0.mk (Below.refl w.heap.size w)
 have H : ((r14_Made.f k l0).bind fun bt729 => ((l14_own.f k bt729.2).bind fun t733 => ((bounds_Close.f k bt729.1 t733).bind fun bt736 => (if bt736.2 = 0 then (if (bt736.1.length : Int) = (wrap64 (bt729.1 + 1)) then (l14_BoundsClosed.l0 k bt729.1 bt736.1 0) else (some false)) else (if bt736.2 = 14 then (if (bt736.1.length : Int) = 0 then ((l14_lives.f k).bind fun t740 => (some t740)) else (some false)) else (some false)))))) = some r := h
 clear h
 replace H := Option.bind_eq_some_iff.mp H
 obtain ⟨⟨t729, t730⟩, A20, H⟩ := H
 replace H : ((l14_own.f k t730).bind fun t733 => ((bounds_Close.f k t729 t733).bind fun bt736 => (if bt736.2 = 0 then (if (bt736.1.length : Int) = (wrap64 (t729 + 1)) then (l14_BoundsClosed.l0 k t729 bt736.1 0) else (some false)) else (if bt736.2 = 14 then (if (bt736.1.length : Int) = 0 then ((l14_lives.f k).bind fun t740 => (some t740)) else (some false)) else (some false))))) = some r := H
 have A2 := Aside0.mk A20
 clear A20
 replace H := Option.bind_eq_some_iff.mp H
 obtain ⟨t733, A30, H⟩ := H
 replace H : ((bounds_Close.f k t729 t733).bind fun bt736 => (if bt736.2 = 0 then (if (bt736.1.length : Int) = (wrap64 (t729 + 1)) then (l14_BoundsClosed.l0 k t729 bt736.1 0) else (some false)) else (if bt736.2 = 14 then (if (bt736.1.length : Int) = 0 then ((l14_lives.f k).bind fun t740 => (some t740)) else (some false)) else (some false)))) = some r := H
 have A3 := Aside0.mk A30
 clear A30
 replace H := Option.bind_eq_some_iff.mp H
 obtain ⟨⟨t736, t737⟩, A40, H⟩ := H
 replace H : (if t737 = 0 then (if (t736.length : Int) = (wrap64 (t729 + 1)) then (l14_BoundsClosed.l0 k t729 t736 0) else (some false)) else (if t737 = 14 then (if (t736.length : Int) = 0 then ((l14_lives.f k).bind fun t740 => (some t740)) else (some false)) else (some false))) = some r := H
 have A4 := Aside0.mk A40
 clear A40
 by_cases c5 : t737 = 0
 ·rw [if_pos c5] at H
  have c5b0 : (t737 == 0) = true := beq_iff_eq.mpr c5
  have c5b1 : (t737 != 0) = false := bne_eq_false_iff_eq.mpr c5
  clear c5
  by_cases c6 : (t736.length : Int) = (wrap64 (t729 + 1))
  ·rw [if_pos c6] at H
   have c6b0 : ((t736.length : Int) == (wrap64 (t729 + 1))) = true := beq_iff_eq.mpr c6
   have c6b1 : ((t736.length : Int) != (wrap64 (t729 + 1))) = false := bne_eq_false_iff_eq.mpr c6
   clear c6
   have H' := Aside0.mk H
   clear H
   go_enter Try.func8, Try.ntmps8
   go_wp2_with (first | (go_at_call 9; (with_reducible refine (r14_Made.calls k _ _ l0 t729 t730 _ ?side1 ?side2 A2.out).mono ?_); (case side1 => repeat (first | exact HR0.out | (with_reducible refine Kd.C_alloc ?_ _) | (with_reducible refine Kd.C_drewN ?_ _) | (with_reducible refine Kd.C_drew ?_))); (case side2 => exact HC0.out); rintro e w7 ⟨v731, rfl, ho0, hb⟩; have n0_ := Aside0.mk (Kd.R_lower ho0 (below_size (by repeat (first | (with_reducible first | exact HB.out | apply below_alloc | apply pw_below_drewN | apply below_drew1) | exact HB.out)))); have n1_ := Aside0.mk (below_step (by repeat (first | (with_reducible first | exact HB.out | apply below_alloc | apply pw_below_drewN | apply below_drew1) | exact HB.out)) hb); clear HB; have HO732 := n0_; have HB := n1_; clear n0_ n1_; (try clear hb); (try clear hb2); (try clear hk); (try clear hi); (try clear ho0); obtain ⟨Ao8, co8, eo8⟩ := Kd.R_slice HO732.out; subst eo8) | (go_at_call 13; (with_reducible refine (l14_own.calls k _ _ t730 t733 _ ?side1 ?side2 A3.out).mono ?_); (case side1 => repeat (first | exact (Kd.R_reads' HO732.out).2.2 | (with_reducible refine Kd.C_alloc ?_ _) | (with_reducible refine Kd.C_drewN ?_ _) | (with_reducible refine Kd.C_drew ?_))); (case side2 => exact (Kd.R_reads' HO732.out).2.1); rintro e w9 ⟨v734, rfl, ho0, hb⟩; have n0_ := Aside0.mk (Kd.R_below (by (with_reducible repeat (first | apply Kd.R_alloc | apply Kd.R_drewN | apply Kd.R_drew)); exact HO732.out) hb); have n1_ := Aside0.mk (Kd.R_lower ho0 (below_size (by repeat (first | (with_reducible first | exact HB.out | apply below_alloc | apply pw_below_drewN | apply below_drew1) | exact HB.out)))); have n2_ := Aside0.mk (below_step (by repeat (first | (with_reducible first | exact HB.out | apply below_alloc | apply pw_below_drewN | apply below_drew1) | exact HB.out)) hb); clear HO732; clear HB; have HO732 := n0_; have HO735 := n1_; have HB := n2_; clear n0_ n1_ n2_; (try clear hb); (try clear hb2); (try clear hk); (try clear hi); (try clear ho0); obtain ⟨Ao10, co10, eo10⟩ := Kd.R_slice HO735.out; subst eo10) | (go_at_call 12; (with_reducible refine (bounds_Close.calls k t729 _ _ t733 t736 t737 _ ?side1 ?side2 A4.out).mono ?_); (case side1 => repeat (first | exact (Kd.R_reads' HO735.out).2.2 | (with_reducible refine Kd.C_alloc ?_ _) | (with_reducible refine Kd.C_drewN ?_ _) | (with_reducible refine Kd.C_drew ?_))); (case side2 => exact (Kd.R_reads' HO735.out).2.1); rintro e w11 ⟨v738, rfl, ho0, hb⟩; have n0_ := Aside0.mk (Kd.R_below (by (with_reducible repeat (first | apply Kd.R_alloc | apply Kd.R_drewN | apply Kd.R_drew)); exact HO732.out) hb); have n1_ := Aside0.mk (Kd.R_below (by (with_reducible repeat (first | apply Kd.R_alloc | apply Kd.R_drewN | apply Kd.R_drew)); exact HO735.out) hb); have n2_ := Aside0.mk (Kd.S_lower ho0 (below_size (by repeat (first | (with_reducible first | exact HB.out | apply below_alloc | apply pw_below_drewN | apply below_drew1) | exact HB.out)))); have n3_ := Aside0.mk (below_step (by repeat (first | (with_reducible first | exact HB.out | apply below_alloc | apply pw_below_drewN | apply below_drew1) | exact HB.out)) hb); clear HO732; clear HO735; clear HB; have HO732 := n0_; have HO735 := n1_; have HO739 := n2_; have HB := n3_; clear n0_ n1_ n2_ n3_; (try clear hb); (try clear hb2); (try clear hk); (try clear hi); (try clear ho0); obtain ⟨Ao12, co12, eo12⟩ := Kd.S_slice HO739.out; subst eo12))
   repeat (go_quiet (first | (go_at_call 9; (with_reducible refine (r14_Made.calls k _ _ l0 t729 t730 _ ?side1 ?side2 A2.out).mono ?_); (case side1 => repeat (first | exact HR0.out | (with_reducible refine Kd.C_alloc ?_ _) | (with_reducible refine Kd.C_drewN ?_ _) | (with_reducible refine Kd.C_drew ?_))); (case side2 => exact HC0.out); rintro e w7 ⟨v731, rfl, ho0, hb⟩; have n0_ := Aside0.mk (Kd.R_lower ho0 (below_size (by repeat (first | (with_reducible first | exact HB.out | apply below_alloc | apply pw_below_drewN | apply below_drew1) | exact HB.out)))); have n1_ := Aside0.mk (below_step (by repeat (first | (with_reducible first | exact HB.out | apply below_alloc | apply pw_below_drewN | apply below_drew1) | exact HB.out)) hb); clear HB; have HO732 := n0_; have HB := n1_; clear n0_ n1_; (try clear hb); (try clear hb2); (try clear hk); (try clear hi); (try clear ho0); obtain ⟨Ao8, co8, eo8⟩ := Kd.R_slice HO732.out; subst eo8) | (go_at_call 13; (with_reducible refine (l14_own.calls k _ _ t730 t733 _ ?side1 ?side2 A3.out).mono ?_); (case side1 => repeat (first | exact (Kd.R_reads' HO732.out).2.2 | (with_reducible refine Kd.C_alloc ?_ _) | (with_reducible refine Kd.C_drewN ?_ _) | (with_reducible refine Kd.C_drew ?_))); (case side2 => exact (Kd.R_reads' HO732.out).2.1); rintro e w9 ⟨v734, rfl, ho0, hb⟩; have n0_ := Aside0.mk (Kd.R_below (by (with_reducible repeat (first | apply Kd.R_alloc | apply Kd.R_drewN | apply Kd.R_drew)); exact HO732.out) hb); have n1_ := Aside0.mk (Kd.R_lower ho0 (below_size (by repeat (first | (with_reducible first | exact HB.out | apply below_alloc | apply pw_below_drewN | apply below_drew1) | exact HB.out)))); have n2_ := Aside0.mk (below_step (by repeat (first | (with_reducible first | exact HB.out | apply below_alloc | apply pw_below_drewN | apply below_drew1) | exact HB.out)) hb); clear HO732; clear HB; have HO732 := n0_; have HO735 := n1_; have HB := n2_; clear n0_ n1_ n2_; (try clear hb); (try clear hb2); (try clear hk); (try clear hi); (try clear ho0); obtain ⟨Ao10, co10, eo10⟩ := Kd.R_slice HO735.out; subst eo10) | (go_at_call 12; (with_reducible refine (bounds_Close.calls k t729 _ _ t733 t736 t737 _ ?side1 ?side2 A4.out).mono ?_); (case side1 => repeat (first | exact (Kd.R_reads' HO735.out).2.2 | (with_reducible refine Kd.C_alloc ?_ _) | (with_reducible refine Kd.C_drewN ?_ _) | (with_reducible refine Kd.C_drew ?_))); (case side2 => exact (Kd.R_reads' HO735.out).2.1); rintro e w11 ⟨v738, rfl, ho0, hb⟩; have n0_ := Aside0.mk (Kd.R_below (by (with_reducible repeat (first | apply Kd.R_alloc | apply Kd.R_drewN | apply Kd.R_drew)); exact HO732.out) hb); have n1_ := Aside0.mk (Kd.R_below (by (with_reducible repeat (first | apply Kd.R_alloc | apply Kd.R_drewN | apply Kd.R_drew)); exact HO735.out) hb); have n2_ := Aside0.mk (Kd.S_lower ho0 (below_size (by repeat (first | (with_reducible first | exact HB.out | apply below_alloc | apply pw_below_drewN | apply below_drew1) | exact HB.out)))); have n3_ := Aside0.mk (below_step (by repeat (first | (with_reducible first | exact HB.out | apply below_alloc | apply pw_below_drewN | apply below_drew1) | exact HB.out)) hb); clear HO732; clear HO735; clear HB; have HO732 := n0_; have HO735 := n1_; have HO739 := n2_; have HB := n3_; clear n0_ n1_ n2_ n3_; (try clear hb); (try clear hb2); (try clear hk); (try clear hi); (try clear ho0); obtain ⟨Ao12, co12, eo12⟩ := Kd.S_slice HO739.out; subst eo12)); try go_wp2_with (first | (go_at_call 9; (with_reducible refine (r14_Made.calls k _ _ l0 t729 t730 _ ?side1 ?side2 A2.out).mono ?_); (case side1 => repeat (first | exact HR0.out | (with_reducible refine Kd.C_alloc ?_ _) | (with_reducible refine Kd.C_drewN ?_ _) | (with_reducible refine Kd.C_drew ?_))); (case side2 => exact HC0.out); rintro e w7 ⟨v731, rfl, ho0, hb⟩; have n0_ := Aside0.mk (Kd.R_lower ho0 (below_size (by repeat (first | (with_reducible first | exact HB.out | apply below_alloc | apply pw_below_drewN | apply below_drew1) | exact HB.out)))); have n1_ := Aside0.mk (below_step (by repeat (first | (with_reducible first | exact HB.out | apply below_alloc | apply pw_below_drewN | apply below_drew1) | exact HB.out)) hb); clear HB; have HO732 := n0_; have HB := n1_; clear n0_ n1_; (try clear hb); (try clear hb2); (try clear hk); (try clear hi); (try clear ho0); obtain ⟨Ao8, co8, eo8⟩ := Kd.R_slice HO732.out; subst eo8) | (go_at_call 13; (with_reducible refine (l14_own.calls k _ _ t730 t733 _ ?side1 ?side2 A3.out).mono ?_); (case side1 => repeat (first | exact (Kd.R_reads' HO732.out).2.2 | (with_reducible refine Kd.C_alloc ?_ _) | (with_reducible refine Kd.C_drewN ?_ _) | (with_reducible refine Kd.C_drew ?_))); (case side2 => exact (Kd.R_reads' HO732.out).2.1); rintro e w9 ⟨v734, rfl, ho0, hb⟩; have n0_ := Aside0.mk (Kd.R_below (by (with_reducible repeat (first | apply Kd.R_alloc | apply Kd.R_drewN | apply Kd.R_drew)); exact HO732.out) hb); have n1_ := Aside0.mk (Kd.R_lower ho0 (below_size (by repeat (first | (with_reducible first | exact HB.out | apply below_alloc | apply pw_below_drewN | apply below_drew1) | exact HB.out)))); have n2_ := Aside0.mk (below_step (by repeat (first | (with_reducible first | exact HB.out | apply below_alloc | apply pw_below_drewN | apply below_drew1) | exact HB.out)) hb); clear HO732; clear HB; have HO732 := n0_; have HO735 := n1_; have HB := n2_; clear n0_ n1_ n2_; (try clear hb); (try clear hb2); (try clear hk); (try clear hi); (try clear ho0); obtain ⟨Ao10, co10, eo10⟩ := Kd.R_slice HO735.out; subst eo10) | (go_at_call 12; (with_reducible refine (bounds_Close.calls k t729 _ _ t733 t736 t737 _ ?side1 ?side2 A4.out).mono ?_); (case side1 => repeat (first | exact (Kd.R_reads' HO735.out).2.2 | (with_reducible refine Kd.C_alloc ?_ _) | (with_reducible refine Kd.C_drewN ?_ _) | (with_reducible refine Kd.C_drew ?_))); (case side2 => exact (Kd.R_reads' HO735.out).2.1); rintro e w11 ⟨v738, rfl, ho0, hb⟩; have n0_ := Aside0.mk (Kd.R_below (by (with_reducible repeat (first | apply Kd.R_alloc | apply Kd.R_drewN | apply Kd.R_drew)); exact HO732.out) hb); have n1_ := Aside0.mk (Kd.R_below (by (with_reducible repeat (first | apply Kd.R_alloc | apply Kd.R_drewN | apply Kd.R_drew)); exact HO735.out) hb); have n2_ := Aside0.mk (Kd.S_lower ho0 (below_size (by repeat (first | (with_reducible first | exact HB.out | apply below_alloc | apply pw_below_drewN | apply below_drew1) | exact HB.out)))); have n3_ := Aside0.mk (below_step (by repeat (first | (with_reducible first | exact HB.out | apply below_alloc | apply pw_below_drewN | apply below_drew1) | exact HB.out)) hb); clear HO732; clear HO735; clear HB; have HO732 := n0_; have HO735 := n1_; have HO739 := n2_; have HB := n3_; clear n0_ n1_ n2_ n3_; (try clear hb); (try clear hb2); (try clear hk); (try clear hi); (try clear ho0); obtain ⟨Ao12, co12, eo12⟩ := Kd.S_slice HO739.out; subst eo12)))
   go_loopg [7] k (fun kq v7 w' => ∃ (x7_1 : Int), v7 = .int .i64 x7_1 ∧ Aside0 (l14_BoundsClosed.l0 kq t729 t736 x7_1 = some r) ∧ Aside0 (kq ≤ k) ∧ Aside0 (Kd.S (Kd.slice 3 (Kd.int .i64)) 22 w' w.heap.size (fun _ => True) (.slice Ao12 t736.length co12) t736) ∧ Aside0 (Below w.heap.size w w'))
   case atStart => exact ⟨(0), (by first | rfl | (simp; done) | (simp [*]; done)), H', ⟨Nat.le_refl _⟩, ⟨by (with_reducible repeat (first | apply Kd.S_alloc | apply Kd.S_drewN | apply Kd.S_drew)); exact HO739.out⟩, ⟨by repeat (first | (with_reducible first | exact HB.out | apply below_alloc | apply pw_below_drewN | apply below_drew1) | exact HB.out)⟩⟩
   case round =>
    clear H'
    try clear p2
    try clear c5
    try clear c5b0
    try clear c5b1
    try clear c6
    try clear c6b0
    try clear c6b1
    try clear p6
    try clear c8
    obtain ⟨x7_1, rfl, HA, HK1, HO_5, HB⟩ := hrel
    cases gk with
    | zero => exact absurd HA.out (by simp [l14_BoundsClosed.l0])
    | succ k1 =>
     have H := HA.out
     clear HA
     simp only [l14_BoundsClosed.l0] at H
     by_cases c13 : x7_1 ≤ t729
     ·rw [if_pos c13] at H
      have c13b0 : decide (x7_1 ≤ t729) = true := decide_eq_true c13
      clear c13
      by_cases c14 : 0 ≤ x7_1
      ·rw [if_pos c14] at H
       have c14b0 : decide (0 ≤ x7_1) = true := decide_eq_true c14
       clear c14
       by_cases c15 : x7_1 < (t736.length : Int)
       ·rw [if_pos c15] at H
        have c15b0 : decide (x7_1 < (t736.length : Int)) = true := decide_eq_true c15
        clear c15
        by_cases c16 : ((rd_L4 t736 x7_1).length : Int) = (wrap64 (t729 + 1))
        ·rw [if_pos c16] at H
         have c16b0 : (((rd_L4 t736 x7_1).length : Int) == (wrap64 (t729 + 1))) = true := beq_iff_eq.mpr c16
         have c16b1 : (((rd_L4 t736 x7_1).length : Int) != (wrap64 (t729 + 1))) = false := bne_eq_false_iff_eq.mpr c16
         clear c16
         have H' := Aside0.mk H
         clear H
         have p741 : 0 ≤ (x7_1 : Int) := of_decide_eq_true (by first | (with_reducible assumption) | assumption)
         have q741 : x7_1 < (t736.length : Int) := of_decide_eq_true (by first | (with_reducible assumption) | assumption)
         obtain ⟨ad741, A741_0, c741_0, e741, hx741_0, hl741_0, hi741_0⟩ := at_L4 (Kd.S_reads' HO_5.out).2.2 x7_1 p741 q741
         cases e741
         obtain ⟨ce741, hce741, hMe741, hcc741⟩ := Kd.S_get HO_5.out [] x7_1 p741 (by first | exact q741 | exact of_decide_eq_true (by first | (with_reducible assumption) | assumption) | (have e_ := (Kd.S_reads' HO_5.out).1; omega))
         obtain ⟨ve741_0, rfl, ge741_0⟩ := hMe741
         have hv741_0 := hcc741 0 _ rfl
         rw [Nat.add_zero, show ((Kd.slice 3 (Kd.int .i64))).sz = 1 from rfl, Nat.mul_one] at hv741_0
         replace hv741_0 := Option.some.inj (hv741_0.symm.trans hx741_0)
         rw [hv741_0] at ge741_0
         have HL741_0 := Aside0.mk (show Kd.R (Kd.int .i64) 3 _ _ _ _ (rd_L4 t736 x7_1) from ge741_0)
         clear hv741_0 ge741_0
         clear hcc741 hce741
         have HR741_0 := Aside0.mk hi741_0
         have HC741_0 := Aside0.mk hl741_0
         clear hi741_0 hl741_0
         replace p741 := eq_true p741
         replace q741 := eq_true q741
         go_wp2
         repeat (go_quiet (fail); try go_wp2)
         go_roundg k1
         case measure => have := HK1.out; omega
         case rel => exact ⟨(wrap64 (x7_1 + 1)), (by first | rfl | (simp; done) | (simp [*]; done)), H', ⟨by have := HK1.out; omega⟩, ⟨by (with_reducible repeat (first | apply Kd.S_alloc | apply Kd.S_drewN | apply Kd.S_drew)); exact HO_5.out⟩, ⟨by repeat (first | (with_reducible first | exact HB.out | apply below_alloc | apply pw_below_drewN | apply below_drew1) | exact HB.out)⟩⟩
        ·rw [if_neg c16] at H
         have c16b0 : (((rd_L4 t736 x7_1).length : Int) == (wrap64 (t729 + 1))) = false := beq_eq_false_iff_ne.mpr c16
         have c16b1 : (((rd_L4 t736 x7_1).length : Int) != (wrap64 (t729 + 1))) = true := bne_iff_ne.mpr c16
         exact absurd H (by rw [HT.out]; simp)
       ·rw [if_neg c15] at H
        exact absurd H (by simp)
      ·rw [if_neg c14] at H
       exact absurd H (by simp)
     ·rw [if_neg c13] at H
      have c13b0 : decide (x7_1 ≤ t729) = false := decide_eq_false c13
      clear c13
      have H' := Aside0.mk H
      clear H
      go_wp2
      repeat (go_quiet (fail); try go_wp2)
      go_loopg [8, 9] k1 (fun kq v8 v9 w' => ∃ (x8_2 : List (S55)) (x9_2 : Int), v9 = .int .i64 x9_2 ∧ Aside0 (l14_BoundsClosed.l1 kq t729 t736 x8_2 x9_2 = some r) ∧ Aside0 (kq ≤ k1) ∧ Aside0 (Kd.S (Kd.slice 3 (Kd.int .i64)) 22 w' w.heap.size (fun _ => True) (.slice Ao12 t736.length co12) t736) ∧ Aside0 (Kd.R k55 55 w' w.heap.size (fun _ => True) v8 x8_2) ∧ Aside0 (Below w.heap.size w w'))
      case atStart => exact ⟨(([] : List (S55))), (0), (by first | rfl | (simp; done) | (simp [*]; done)), H', ⟨Nat.le_refl _⟩, ⟨by (with_reducible repeat (first | apply Kd.S_alloc | apply Kd.S_drewN | apply Kd.S_drew)); exact HO_5.out⟩, ⟨by first | exact Kd.R_nil _ _ _ _ _ | exact Kd.N_nil _ _ _ _ _ | exact Kd.V_nil _ _ _ _ _ | exact Kd.Q_nil _ _ _ _ _ | exact Kd.S_nil _ _ _ _ _⟩, ⟨by repeat (first | (with_reducible first | exact HB.out | apply below_alloc | apply pw_below_drewN | apply below_drew1) | exact HB.out)⟩⟩
      case round =>
       clear H'
       try clear c1
       try clear p2
       try clear c5
       try clear c5b0
       try clear c5b1
       try clear c6
       try clear c6b0
       try clear c6b1
       try clear p6
       try clear c7
       try clear p7
       try clear q7
       try clear hx7
       try clear c8
       try clear c13
       try clear c13b0
       try clear c14
       try clear c14b0
       try clear c15
       try clear c15b0
       try clear c16
       try clear c16b0
       try clear c16b1
       try clear hx741_0
       try clear p2
       try clear p6
       try clear p741
       try clear q741
       obtain ⟨x8_2, x9_2, rfl, HA, HK2, HO_5, HO_8, HB⟩ := hrel
       cases gk with
       | zero => exact absurd HA.out (by simp [l14_BoundsClosed.l1])
       | succ k2 =>
        have H := HA.out
        clear HA
        simp only [l14_BoundsClosed.l1] at H
        by_cases c17 : x9_2 ≤ t729
        ·rw [if_pos c17] at H
         have c17b0 : decide (x9_2 ≤ t729) = true := decide_eq_true c17
         clear c17
         by_cases c18 : 0 ≤ x9_2
         ·rw [if_pos c18] at H
          have c18b0 : decide (0 ≤ x9_2) = true := decide_eq_true c18
          clear c18
          by_cases c19 : x9_2 < (t736.length : Int)
          ·rw [if_pos c19] at H
           have c19b0 : decide (x9_2 < (t736.length : Int)) = true := decide_eq_true c19
           clear c19
           by_cases c20 : x9_2 < ((rd_L4 t736 x9_2).length : Int)
           ·rw [if_pos c20] at H
            have c20b0 : decide (x9_2 < ((rd_L4 t736 x9_2).length : Int)) = true := decide_eq_true c20
            clear c20
            by_cases c21 : (rd (rd_L4 t736 x9_2) x9_2) = 0
            ·rw [if_pos c21] at H
             have c21b0 : ((rd (rd_L4 t736 x9_2) x9_2) == 0) = true := beq_iff_eq.mpr c21
             have c21b1 : ((rd (rd_L4 t736 x9_2) x9_2) != 0) = false := bne_eq_false_iff_eq.mpr c21
             clear c21
             have H' := Aside0.mk H
             clear H
             have p748 : 0 ≤ (x9_2 : Int) := of_decide_eq_true (by first | (with_reducible assumption) | assumption)
             have q748 : x9_2 < (t736.length : Int) := of_decide_eq_true (by first | (with_reducible assumption) | assumption)
             obtain ⟨ad748, A748_0, c748_0, e748, hx748_0, hl748_0, hi748_0⟩ := at_L4 (Kd.S_reads' HO_5.out).2.2 x9_2 p748 q748
             cases e748
             obtain ⟨ce748, hce748, hMe748, hcc748⟩ := Kd.S_get HO_5.out [] x9_2 p748 (by first | exact q748 | exact of_decide_eq_true (by first | (with_reducible assumption) | assumption) | (have e_ := (Kd.S_reads' HO_5.out).1; omega))
             obtain ⟨ve748_0, rfl, ge748_0⟩ := hMe748
             have hv748_0 := hcc748 0 _ rfl
             rw [Nat.add_zero, show ((Kd.slice 3 (Kd.int .i64))).sz = 1 from rfl, Nat.mul_one] at hv748_0
             replace hv748_0 := Option.some.inj (hv748_0.symm.trans hx748_0)
             rw [hv748_0] at ge748_0
             have HL748_0 := Aside0.mk (show Kd.R (Kd.int .i64) 3 _ _ _ _ (rd_L4 t736 x9_2) from ge748_0)
             clear hv748_0 ge748_0
             clear hcc748 hce748
             have HR748_0 := Aside0.mk hi748_0
             have HC748_0 := Aside0.mk hl748_0
             clear hi748_0 hl748_0
             replace p748 := eq_true p748
             replace q748 := eq_true q748
             have p749 : 0 ≤ (x9_2 : Int) := of_decide_eq_true (by first | (with_reducible assumption) | assumption)
             have q749 : x9_2 < ((rd_L4 t736 x9_2).length : Int) := of_decide_eq_true (by first | (with_reducible assumption) | assumption)
             obtain ⟨ad749, e749, hx749_0⟩ := Kd.at_int (by repeat (first | (with_reducible exact HR748_0.out) | (with_reducible refine Kd.C_alloc ?_ _) | (with_reducible refine Kd.C_drewN ?_ _) | (with_reducible refine Kd.C_drew ?_) | exact HR748_0.out)) x9_2 p749 q749
             cases e749
             replace p749 := eq_true p749
             replace q749 := eq_true q749
             go_wp2
             repeat (go_quiet (fail); try go_wp2)
             go_loopg [8, 10] k2 (fun kq v8 v10 w' => ∃ (x8_3 : List (S55)) (x10_3 : Int), v10 = .int .i64 x10_3 ∧ Aside0 (l14_BoundsClosed.l2 kq t729 t736 x8_3 x9_2 x10_3 = some r) ∧ Aside0 (kq ≤ k2) ∧ Aside0 (Kd.S (Kd.slice 3 (Kd.int .i64)) 22 w' w.heap.size (fun _ => True) (.slice (some ad748) t736.length co12) t736) ∧ Aside0 (Kd.R k55 55 w' w.heap.size (fun _ => True) v8 x8_3) ∧ Aside0 (Below w.heap.size w w'))
             case atStart => exact ⟨(x8_2), (0), (by first | rfl | (simp; done) | (simp [*]; done)), H', ⟨Nat.le_refl _⟩, ⟨by (with_reducible repeat (first | apply Kd.S_alloc | apply Kd.S_drewN | apply Kd.S_drew)); exact HO_5.out⟩, ⟨by (with_reducible repeat (first | apply Kd.R_alloc | apply Kd.R_drewN | apply Kd.R_drew)); exact HO_8.out⟩, ⟨by repeat (first | (with_reducible first | exact HB.out | apply below_alloc | apply pw_below_drewN | apply below_drew1) | exact HB.out)⟩⟩
             case round =>
              clear H'
              try clear c1
              try clear c2
              try clear p2
              try clear c5
              try clear c5b0
              try clear c5b1
              try clear c6
              try clear c6b0
              try clear c6b1
              try clear p6
              try clear c7
              try clear p7
              try clear q7
              try clear hx7
              try clear c8
              try clear c13
              try clear c13b0
              try clear c14
              try clear c14b0
              try clear c15
              try clear c15b0
              try clear c16
              try clear c16b0
              try clear c16b1
              try clear c17
              try clear c17b0
              try clear c18
              try clear c18b0
              try clear c19
              try clear c19b0
              try clear c20
              try clear c20b0
              try clear c21
              try clear c21b0
              try clear c21b1
              try clear hx741_0
              try clear hx748_0
              try clear hx749_0
              try clear p2
              try clear p6
              try clear p7
              try clear p741
              try clear p748
              try clear p749
              try clear q7
              try clear q741
              try clear q748
              try clear q749
              obtain ⟨x8_3, x10_3, rfl, HA, HK3, HO_5, HO_8, HB⟩ := hrel
              cases gk with
              | zero => exact absurd HA.out (by simp [l14_BoundsClosed.l2])
              | succ k3 =>
               have H := HA.out
               clear HA
               simp only [l14_BoundsClosed.l2] at H
               by_cases c22 : x10_3 ≤ t729
               ·rw [if_pos c22] at H
                have c22b0 : decide (x10_3 ≤ t729) = true := decide_eq_true c22
                clear c22
                have H' := Aside0.mk H
                clear H
                go_wp2
                repeat (go_quiet (fail); try go_wp2)
                go_loopg [11] k3 (fun kq v11 w' => ∃ (x11_4 : Int), v11 = .int .i64 x11_4 ∧ Aside0 (l14_BoundsClosed.l3 kq t729 t736 x8_3 x9_2 x10_3 x11_4 = some r) ∧ Aside0 (kq ≤ k3) ∧ Aside0 (Kd.S (Kd.slice 3 (Kd.int .i64)) 22 w' w.heap.size (fun _ => True) (.slice (some ad748) t736.length co12) t736) ∧ Aside0 (Kd.R k55 55 w' w.heap.size (fun _ => True) u8 x8_3) ∧ Aside0 (Below w.heap.size w w'))
                case atStart => exact ⟨(0), (by first | rfl | (simp; done) | (simp [*]; done)), H', ⟨Nat.le_refl _⟩, ⟨by (with_reducible repeat (first | apply Kd.S_alloc | apply Kd.S_drewN | apply Kd.S_drew)); exact HO_5.out⟩, ⟨by (with_reducible repeat (first | apply Kd.R_alloc | apply Kd.R_drewN | apply Kd.R_drew)); exact HO_8.out⟩, ⟨by repeat (first | (with_reducible first | exact HB.out | apply below_alloc | apply pw_below_drewN | apply below_drew1) | exact HB.out)⟩⟩
                case round =>
                 clear H'
                 try clear c1
                 try clear c2
                 try clear p2
                 try clear c5
                 try clear c5b0
                 try clear c5b1
                 try clear c6
                 try clear c6b0
                 try clear c6b1
                 try clear p6
                 try clear c7
                 try clear p7
                 try clear q7
                 try clear hx7
                 try clear c8
                 try clear c13
                 try clear c13b0
                 try clear c14
                 try clear c14b0
                 try clear c15
                 try clear c15b0
                 try clear c16
                 try clear c16b0
                 try clear c16b1
                 try clear c17
                 try clear c17b0
                 try clear c18
                 try clear c18b0
                 try clear c19
                 try clear c19b0
                 try clear c20
                 try clear c20b0
                 try clear c21
                 try clear c21b0
                 try clear c21b1
                 try clear c22
                 try clear c22b0
                 try clear hx741_0
                 try clear hx748_0
                 try clear hx749_0
                 try clear p2
                 try clear p6
                 try clear p7
                 try clear p741
                 try clear p748
                 try clear p749
                 try clear q7
                 try clear q741
                 try clear q748
                 try clear q749
                 obtain ⟨x11_4, rfl, HA, HK4, HO_5, HO_8, HB⟩ := hrel
                 cases gk with
                 | zero => exact absurd HA.out (by simp [l14_BoundsClosed.l3])
                 | succ k4 =>
                  have H := HA.out
                  clear HA
                  simp only [l14_BoundsClosed.l3] at H
                  by_cases c23 : x11_4 ≤ t729
                  ·rw [if_pos c23] at H
                   have c23b0 : decide (x11_4 ≤ t729) = true := decide_eq_true c23
                   clear c23
                   by_cases c24 : 0 ≤ x9_2
                   ·rw [if_pos c24] at H
                    have c24b0 : decide (0 ≤ x9_2) = true := decide_eq_true c24
                    clear c24
                    by_cases c25 : x9_2 < (t736.length : Int)
                    ·rw [if_pos c25] at H
                     have c25b0 : decide (x9_2 < (t736.length : Int)) = true := decide_eq_true c25
                     clear c25
                     by_cases c26 : 0 ≤ x11_4
                     ·rw [if_pos c26] at H
                      have c26b0 : decide (0 ≤ x11_4) = true := decide_eq_true c26
                      clear c26
                      by_cases c27 : x11_4 < ((rd_L4 t736 x9_2).length : Int)
                      ·rw [if_pos c27] at H
                       have c27b0 : decide (x11_4 < ((rd_L4 t736 x9_2).length : Int)) = true := decide_eq_true c27
                       clear c27
                       by_cases c28 : (rd (rd_L4 t736 x9_2) x11_4) < 1099511627776
                       ·rw [if_pos c28] at H
                        have c28b0 : decide ((rd (rd_L4 t736 x9_2) x11_4) < 1099511627776) = true := decide_eq_true c28
                        clear c28
                        by_cases c29 : x11_4 < (t736.length : Int)
                        ·rw [if_pos c29] at H
                         have c29b0 : decide (x11_4 < (t736.length : Int)) = true := decide_eq_true c29
                         clear c29
                         by_cases c30 : 0 ≤ x10_3
                         ·rw [if_pos c30] at H
                          have c30b0 : decide (0 ≤ x10_3) = true := decide_eq_true c30
                          clear c30
                          by_cases c31 : x10_3 < ((rd_L4 t736 x11_4).length : Int)
                          ·rw [if_pos c31] at H
                           have c31b0 : decide (x10_3 < ((rd_L4 t736 x11_4).length : Int)) = true := decide_eq_true c31
                           clear c31
                           by_cases c32 : (rd (rd_L4 t736 x11_4) x10_3) < 1099511627776
                           ·rw [if_pos c32] at H
                            have c32b0 : decide ((rd (rd_L4 t736 x11_4) x10_3) < 1099511627776) = true := decide_eq_true c32
                            clear c32
                            by_cases c33 : x10_3 < ((rd_L4 t736 x9_2).length : Int)
                            ·rw [if_pos c33] at H
                             have c33b0 : decide (x10_3 < ((rd_L4 t736 x9_2).length : Int)) = true := decide_eq_true c33
                             clear c33
                             by_cases c34 : (rd (rd_L4 t736 x9_2) x10_3) > (wrap64 ((rd (rd_L4 t736 x9_2) x11_4) + (rd (rd_L4 t736 x11_4) x10_3)))
                             ·rw [if_pos c34] at H
                              have c34b0 : decide ((wrap64 ((rd (rd_L4 t736 x9_2) x11_4) + (rd (rd_L4 t736 x11_4) x10_3))) < (rd (rd_L4 t736 x9_2) x10_3)) = true := decide_eq_true c34
                              clear c34
                              exact absurd H (by rw [HT.out]; simp)
                             ·rw [if_neg c34] at H
                              have c34b0 : decide ((wrap64 ((rd (rd_L4 t736 x9_2) x11_4) + (rd (rd_L4 t736 x11_4) x10_3))) < (rd (rd_L4 t736 x9_2) x10_3)) = false := decide_eq_false c34
                              clear c34
                              have H' := Aside0.mk H
                              clear H
                              have p750 : 0 ≤ (x9_2 : Int) := of_decide_eq_true (by first | (with_reducible assumption) | assumption)
                              have q750 : x9_2 < (t736.length : Int) := of_decide_eq_true (by first | (with_reducible assumption) | assumption)
                              obtain ⟨ad750, A750_0, c750_0, e750, hx750_0, hl750_0, hi750_0⟩ := at_L4 (Kd.S_reads' HO_5.out).2.2 x9_2 p750 q750
                              obtain rfl : ad748 = ad750 := (by injection e750)
                              obtain ⟨ce750, hce750, hMe750, hcc750⟩ := Kd.S_get HO_5.out [] x9_2 p750 (by first | exact q750 | exact of_decide_eq_true (by first | (with_reducible assumption) | assumption) | (have e_ := (Kd.S_reads' HO_5.out).1; omega))
                              obtain ⟨ve750_0, rfl, ge750_0⟩ := hMe750
                              have hv750_0 := hcc750 0 _ rfl
                              rw [Nat.add_zero, show ((Kd.slice 3 (Kd.int .i64))).sz = 1 from rfl, Nat.mul_one] at hv750_0
                              replace hv750_0 := Option.some.inj (hv750_0.symm.trans hx750_0)
                              rw [hv750_0] at ge750_0
                              have HL750_0 := Aside0.mk (show Kd.R (Kd.int .i64) 3 _ _ _ _ (rd_L4 t736 x9_2) from ge750_0)
                              clear hv750_0 ge750_0
                              clear hcc750 hce750
                              have HR750_0 := Aside0.mk hi750_0
                              have HC750_0 := Aside0.mk hl750_0
                              clear hi750_0 hl750_0
                              replace p750 := eq_true p750
                              replace q750 := eq_true q750
                              have p751 : 0 ≤ (x11_4 : Int) := of_decide_eq_true (by first | (with_reducible assumption) | assumption)
                              have q751 : x11_4 < ((rd_L4 t736 x9_2).length : Int) := of_decide_eq_true (by first | (with_reducible assumption) | assumption)
                              obtain ⟨ad751, e751, hx751_0⟩ := Kd.at_int (by repeat (first | (with_reducible exact HR750_0.out) | (with_reducible refine Kd.C_alloc ?_ _) | (with_reducible refine Kd.C_drewN ?_ _) | (with_reducible refine Kd.C_drew ?_) | exact HR750_0.out)) x11_4 p751 q751
                              cases e751
                              replace p751 := eq_true p751
                              replace q751 := eq_true q751
                              have p752 : 0 ≤ (x11_4 : Int) := of_decide_eq_true (by first | (with_reducible assumption) | assumption)
                              have q752 : x11_4 < (t736.length : Int) := of_decide_eq_true (by first | (with_reducible assumption) | assumption)
                              obtain ⟨ad752, A752_0, c752_0, e752, hx752_0, hl752_0, hi752_0⟩ := at_L4 (Kd.S_reads' HO_5.out).2.2 x11_4 p752 q752
                              obtain rfl : ad748 = ad752 := (by injection e752)
                              obtain ⟨ce752, hce752, hMe752, hcc752⟩ := Kd.S_get HO_5.out [] x11_4 p752 (by first | exact q752 | exact of_decide_eq_true (by first | (with_reducible assumption) | assumption) | (have e_ := (Kd.S_reads' HO_5.out).1; omega))
                              obtain ⟨ve752_0, rfl, ge752_0⟩ := hMe752
                              have hv752_0 := hcc752 0 _ rfl
                              rw [Nat.add_zero, show ((Kd.slice 3 (Kd.int .i64))).sz = 1 from rfl, Nat.mul_one] at hv752_0
                              replace hv752_0 := Option.some.inj (hv752_0.symm.trans hx752_0)
                              rw [hv752_0] at ge752_0
                              have HL752_0 := Aside0.mk (show Kd.R (Kd.int .i64) 3 _ _ _ _ (rd_L4 t736 x11_4) from ge752_0)
                              clear hv752_0 ge752_0
                              clear hcc752 hce752
                              have HR752_0 := Aside0.mk hi752_0
                              have HC752_0 := Aside0.mk hl752_0
                              clear hi752_0 hl752_0
                              replace p752 := eq_true p752
                              replace q752 := eq_true q752
                              have p753 : 0 ≤ (x10_3 : Int) := of_decide_eq_true (by first | (with_reducible assumption) | assumption)
                              have q753 : x10_3 < ((rd_L4 t736 x11_4).length : Int) := of_decide_eq_true (by first | (with_reducible assumption) | assumption)
                              obtain ⟨ad753, e753, hx753_0⟩ := Kd.at_int (by repeat (first | (with_reducible exact HR752_0.out) | (with_reducible refine Kd.C_alloc ?_ _) | (with_reducible refine Kd.C_drewN ?_ _) | (with_reducible refine Kd.C_drew ?_) | exact HR752_0.out)) x10_3 p753 q753
                              cases e753
                              replace p753 := eq_true p753
                              replace q753 := eq_true q753
                              have p754 : 0 ≤ (x9_2 : Int) := of_decide_eq_true (by first | (with_reducible assumption) | assumption)
                              have q754 : x9_2 < (t736.length : Int) := of_decide_eq_true (by first | (with_reducible assumption) | assumption)
                              obtain ⟨ad754, A754_0, c754_0, e754, hx754_0, hl754_0, hi754_0⟩ := at_L4 (Kd.S_reads' HO_5.out).2.2 x9_2 p754 q754
                              obtain rfl : ad748 = ad754 := (by injection e754)
                              obtain ⟨ce754, hce754, hMe754, hcc754⟩ := Kd.S_get HO_5.out [] x9_2 p754 (by first | exact q754 | exact of_decide_eq_true (by first | (with_reducible assumption) | assumption) | (have e_ := (Kd.S_reads' HO_5.out).1; omega))
                              obtain ⟨ve754_0, rfl, ge754_0⟩ := hMe754
                              have hv754_0 := hcc754 0 _ rfl
                              rw [Nat.add_zero, show ((Kd.slice 3 (Kd.int .i64))).sz = 1 from rfl, Nat.mul_one] at hv754_0
                              replace hv754_0 := Option.some.inj (hv754_0.symm.trans hx754_0)
                              rw [hv754_0] at ge754_0
                              have HL754_0 := Aside0.mk (show Kd.R (Kd.int .i64) 3 _ _ _ _ (rd_L4 t736 x9_2) from ge754_0)
                              clear hv754_0 ge754_0
                              clear hcc754 hce754
                              have HR754_0 := Aside0.mk hi754_0
                              have HC754_0 := Aside0.mk hl754_0
                              clear hi754_0 hl754_0
                              replace p754 := eq_true p754
                              replace q754 := eq_true q754
                              have ea_ := Option.some.inj (hx750_0.symm.trans hx754_0)
                              injection ea_ with ea_ en_ ec_
                              subst ea_
                              subst ec_
                              clear en_
                              have p755 : 0 ≤ (x10_3 : Int) := of_decide_eq_true (by first | (with_reducible assumption) | assumption)
                              have q755 : x10_3 < ((rd_L4 t736 x9_2).length : Int) := of_decide_eq_true (by first | (with_reducible assumption) | assumption)
                              obtain ⟨ad755, e755, hx755_0⟩ := Kd.at_int (by repeat (first | (with_reducible exact HR754_0.out) | (with_reducible refine Kd.C_alloc ?_ _) | (with_reducible refine Kd.C_drewN ?_ _) | (with_reducible refine Kd.C_drew ?_) | exact HR754_0.out)) x10_3 p755 q755
                              cases e755
                              replace p755 := eq_true p755
                              replace q755 := eq_true q755
                              have p756 : 0 ≤ (x9_2 : Int) := of_decide_eq_true (by first | (with_reducible assumption) | assumption)
                              have q756 : x9_2 < (t736.length : Int) := of_decide_eq_true (by first | (with_reducible assumption) | assumption)
                              obtain ⟨ad756, A756_0, c756_0, e756, hx756_0, hl756_0, hi756_0⟩ := at_L4 (Kd.S_reads' HO_5.out).2.2 x9_2 p756 q756
                              obtain rfl : ad748 = ad756 := (by injection e756)
                              obtain ⟨ce756, hce756, hMe756, hcc756⟩ := Kd.S_get HO_5.out [] x9_2 p756 (by first | exact q756 | exact of_decide_eq_true (by first | (with_reducible assumption) | assumption) | (have e_ := (Kd.S_reads' HO_5.out).1; omega))
                              obtain ⟨ve756_0, rfl, ge756_0⟩ := hMe756
                              have hv756_0 := hcc756 0 _ rfl
                              rw [Nat.add_zero, show ((Kd.slice 3 (Kd.int .i64))).sz = 1 from rfl, Nat.mul_one] at hv756_0
                              replace hv756_0 := Option.some.inj (hv756_0.symm.trans hx756_0)
                              rw [hv756_0] at ge756_0
                              have HL756_0 := Aside0.mk (show Kd.R (Kd.int .i64) 3 _ _ _ _ (rd_L4 t736 x9_2) from ge756_0)
                              clear hv756_0 ge756_0
                              clear hcc756 hce756
                              have HR756_0 := Aside0.mk hi756_0
                              have HC756_0 := Aside0.mk hl756_0
                              clear hi756_0 hl756_0
                              replace p756 := eq_true p756
                              replace q756 := eq_true q756
                              have ea_ := Option.some.inj (hx750_0.symm.trans hx756_0)
                              injection ea_ with ea_ en_ ec_
                              subst ea_
                              subst ec_
                              clear en_
                              have p757 : 0 ≤ (x11_4 : Int) := of_decide_eq_true (by first | (with_reducible assumption) | assumption)
                              have q757 : x11_4 < ((rd_L4 t736 x9_2).length : Int) := of_decide_eq_true (by first | (with_reducible assumption) | assumption)
                              obtain ⟨ad757, e757, hx757_0⟩ := Kd.at_int (by repeat (first | (with_reducible exact HR756_0.out) | (with_reducible refine Kd.C_alloc ?_ _) | (with_reducible refine Kd.C_drewN ?_ _) | (with_reducible refine Kd.C_drew ?_) | exact HR756_0.out)) x11_4 p757 q757
                              cases e757
                              replace p757 := eq_true p757
                              replace q757 := eq_true q757
                              have p758 : 0 ≤ (x11_4 : Int) := of_decide_eq_true (by first | (with_reducible assumption) | assumption)
                              have q758 : x11_4 < (t736.length : Int) := of_decide_eq_true (by first | (with_reducible assumption) | assumption)
                              obtain ⟨ad758, A758_0, c758_0, e758, hx758_0, hl758_0, hi758_0⟩ := at_L4 (Kd.S_reads' HO_5.out).2.2 x11_4 p758 q758
                              obtain rfl : ad748 = ad758 := (by injection e758)
                              obtain ⟨ce758, hce758, hMe758, hcc758⟩ := Kd.S_get HO_5.out [] x11_4 p758 (by first | exact q758 | exact of_decide_eq_true (by first | (with_reducible assumption) | assumption) | (have e_ := (Kd.S_reads' HO_5.out).1; omega))
                              obtain ⟨ve758_0, rfl, ge758_0⟩ := hMe758
                              have hv758_0 := hcc758 0 _ rfl
                              rw [Nat.add_zero, show ((Kd.slice 3 (Kd.int .i64))).sz = 1 from rfl, Nat.mul_one] at hv758_0
                              replace hv758_0 := Option.some.inj (hv758_0.symm.trans hx758_0)
                              rw [hv758_0] at ge758_0
                              have HL758_0 := Aside0.mk (show Kd.R (Kd.int .i64) 3 _ _ _ _ (rd_L4 t736 x11_4) from ge758_0)
                              clear hv758_0 ge758_0
                              clear hcc758 hce758
                              have HR758_0 := Aside0.mk hi758_0
                              have HC758_0 := Aside0.mk hl758_0
                              clear hi758_0 hl758_0
                              replace p758 := eq_true p758
                              replace q758 := eq_true q758
                              have ea_ := Option.some.inj (hx752_0.symm.trans hx758_0)
                              injection ea_ with ea_ en_ ec_
                              subst ea_
                              subst ec_
                              clear en_
                              have p759 : 0 ≤ (x10_3 : Int) := of_decide_eq_true (by first | (with_reducible assumption) | assumption)
                              have q759 : x10_3 < ((rd_L4 t736 x11_4).length : Int) := of_decide_eq_true (by first | (with_reducible assumption) | assumption)
                              obtain ⟨ad759, e759, hx759_0⟩ := Kd.at_int (by repeat (first | (with_reducible exact HR758_0.out) | (with_reducible refine Kd.C_alloc ?_ _) | (with_reducible refine Kd.C_drewN ?_ _) | (with_reducible refine Kd.C_drew ?_) | exact HR758_0.out)) x10_3 p759 q759
                              cases e759
                              replace p759 := eq_true p759
                              replace q759 := eq_true q759
                              go_wp2
                              repeat (go_quiet (fail); try go_wp2)
                              go_roundg k4
                              case measure => have := HK1.out; have := HK2.out; have := HK3.out; have := HK4.out; omega
                              case rel => exact ⟨(wrap64 (x11_4 + 1)), (by first | rfl | (simp; done) | (simp [*]; done)), H', ⟨by have := HK1.out; have := HK2.out; have := HK3.out; have := HK4.out; omega⟩, ⟨by (with_reducible repeat (first | apply Kd.S_alloc | apply Kd.S_drewN | apply Kd.S_drew)); exact HO_5.out⟩, ⟨by (with_reducible repeat (first | apply Kd.R_alloc | apply Kd.R_drewN | apply Kd.R_drew)); exact HO_8.out⟩, ⟨by repeat (first | (with_reducible first | exact HB.out | apply below_alloc | apply pw_below_drewN | apply below_drew1) | exact HB.out)⟩⟩
                            ·rw [if_neg c33] at H
                             exact absurd H (by simp)
                           ·rw [if_neg c32] at H
                            have c32b0 : decide ((rd (rd_L4 t736 x11_4) x10_3) < 1099511627776) = false := decide_eq_false c32
                            clear c32
                            have H' := Aside0.mk H
                            clear H
                            have p750 : 0 ≤ (x9_2 : Int) := of_decide_eq_true (by first | (with_reducible assumption) | assumption)
                            have q750 : x9_2 < (t736.length : Int) := of_decide_eq_true (by first | (with_reducible assumption) | assumption)
                            obtain ⟨ad750, A750_0, c750_0, e750, hx750_0, hl750_0, hi750_0⟩ := at_L4 (Kd.S_reads' HO_5.out).2.2 x9_2 p750 q750
                            obtain rfl : ad748 = ad750 := (by injection e750)
                            obtain ⟨ce750, hce750, hMe750, hcc750⟩ := Kd.S_get HO_5.out [] x9_2 p750 (by first | exact q750 | exact of_decide_eq_true (by first | (with_reducible assumption) | assumption) | (have e_ := (Kd.S_reads' HO_5.out).1; omega))
                            obtain ⟨ve750_0, rfl, ge750_0⟩ := hMe750
                            have hv750_0 := hcc750 0 _ rfl
                            rw [Nat.add_zero, show ((Kd.slice 3 (Kd.int .i64))).sz = 1 from rfl, Nat.mul_one] at hv750_0
                            replace hv750_0 := Option.some.inj (hv750_0.symm.trans hx750_0)
                            rw [hv750_0] at ge750_0
                            have HL750_0 := Aside0.mk (show Kd.R (Kd.int .i64) 3 _ _ _ _ (rd_L4 t736 x9_2) from ge750_0)
                            clear hv750_0 ge750_0
                            clear hcc750 hce750
                            have HR750_0 := Aside0.mk hi750_0
                            have HC750_0 := Aside0.mk hl750_0
                            clear hi750_0 hl750_0
                            replace p750 := eq_true p750
                            replace q750 := eq_true q750
                            have p751 : 0 ≤ (x11_4 : Int) := of_decide_eq_true (by first | (with_reducible assumption) | assumption)
                            have q751 : x11_4 < ((rd_L4 t736 x9_2).length : Int) := of_decide_eq_true (by first | (with_reducible assumption) | assumption)
                            obtain ⟨ad751, e751, hx751_0⟩ := Kd.at_int (by repeat (first | (with_reducible exact HR750_0.out) | (with_reducible refine Kd.C_alloc ?_ _) | (with_reducible refine Kd.C_drewN ?_ _) | (with_reducible refine Kd.C_drew ?_) | exact HR750_0.out)) x11_4 p751 q751
                            cases e751
                            replace p751 := eq_true p751
                            replace q751 := eq_true q751
                            have p752 : 0 ≤ (x11_4 : Int) := of_decide_eq_true (by first | (with_reducible assumption) | assumption)
                            have q752 : x11_4 < (t736.length : Int) := of_decide_eq_true (by first | (with_reducible assumption) | assumption)
                            obtain ⟨ad752, A752_0, c752_0, e752, hx752_0, hl752_0, hi752_0⟩ := at_L4 (Kd.S_reads' HO_5.out).2.2 x11_4 p752 q752
                            obtain rfl : ad748 = ad752 := (by injection e752)
                            obtain ⟨ce752, hce752, hMe752, hcc752⟩ := Kd.S_get HO_5.out [] x11_4 p752 (by first | exact q752 | exact of_decide_eq_true (by first | (with_reducible assumption) | assumption) | (have e_ := (Kd.S_reads' HO_5.out).1; omega))
                            obtain ⟨ve752_0, rfl, ge752_0⟩ := hMe752
                            have hv752_0 := hcc752 0 _ rfl
                            rw [Nat.add_zero, show ((Kd.slice 3 (Kd.int .i64))).sz = 1 from rfl, Nat.mul_one] at hv752_0
                            replace hv752_0 := Option.some.inj (hv752_0.symm.trans hx752_0)
                            rw [hv752_0] at ge752_0
                            have HL752_0 := Aside0.mk (show Kd.R (Kd.int .i64) 3 _ _ _ _ (rd_L4 t736 x11_4) from ge752_0)
                            clear hv752_0 ge752_0
                            clear hcc752 hce752
                            have HR752_0 := Aside0.mk hi752_0
                            have HC752_0 := Aside0.mk hl752_0
                            clear hi752_0 hl752_0
                            replace p752 := eq_true p752
                            replace q752 := eq_true q752
                            have p753 : 0 ≤ (x10_3 : Int) := of_decide_eq_true (by first | (with_reducible assumption) | assumption)
                            have q753 : x10_3 < ((rd_L4 t736 x11_4).length : Int) := of_decide_eq_true (by first | (with_reducible assumption) | assumption)
                            obtain ⟨ad753, e753, hx753_0⟩ := Kd.at_int (by repeat (first | (with_reducible exact HR752_0.out) | (with_reducible refine Kd.C_alloc ?_ _) | (with_reducible refine Kd.C_drewN ?_ _) | (with_reducible refine Kd.C_drew ?_) | exact HR752_0.out)) x10_3 p753 q753
                            cases e753
                            replace p753 := eq_true p753
                            replace q753 := eq_true q753
                            go_wp2
                            repeat (go_quiet (fail); try go_wp2)
                            go_roundg k4
                            case measure => have := HK1.out; have := HK2.out; have := HK3.out; have := HK4.out; omega
                            case rel => exact ⟨(wrap64 (x11_4 + 1)), (by first | rfl | (simp; done) | (simp [*]; done)), H', ⟨by have := HK1.out; have := HK2.out; have := HK3.out; have := HK4.out; omega⟩, ⟨by (with_reducible repeat (first | apply Kd.S_alloc | apply Kd.S_drewN | apply Kd.S_drew)); exact HO_5.out⟩, ⟨by (with_reducible repeat (first | apply Kd.R_alloc | apply Kd.R_drewN | apply Kd.R_drew)); exact HO_8.out⟩, ⟨by repeat (first | (with_reducible first | exact HB.out | apply below_alloc | apply pw_below_drewN | apply below_drew1) | exact HB.out)⟩⟩
                          ·rw [if_neg c31] at H
                           exact absurd H (by simp)
                         ·rw [if_neg c30] at H
                          exact absurd H (by simp)
                        ·rw [if_neg c29] at H
                         exact absurd H (by simp)
                       ·rw [if_neg c28] at H
                        have c28b0 : decide ((rd (rd_L4 t736 x9_2) x11_4) < 1099511627776) = false := decide_eq_false c28
                        clear c28
                        have H' := Aside0.mk H
                        clear H
                        have p750 : 0 ≤ (x9_2 : Int) := of_decide_eq_true (by first | (with_reducible assumption) | assumption)
                        have q750 : x9_2 < (t736.length : Int) := of_decide_eq_true (by first | (with_reducible assumption) | assumption)
                        obtain ⟨ad750, A750_0, c750_0, e750, hx750_0, hl750_0, hi750_0⟩ := at_L4 (Kd.S_reads' HO_5.out).2.2 x9_2 p750 q750
                        obtain rfl : ad748 = ad750 := (by injection e750)
                        obtain ⟨ce750, hce750, hMe750, hcc750⟩ := Kd.S_get HO_5.out [] x9_2 p750 (by first | exact q750 | exact of_decide_eq_true (by first | (with_reducible assumption) | assumption) | (have e_ := (Kd.S_reads' HO_5.out).1; omega))
                        obtain ⟨ve750_0, rfl, ge750_0⟩ := hMe750
                        have hv750_0 := hcc750 0 _ rfl
                        rw [Nat.add_zero, show ((Kd.slice 3 (Kd.int .i64))).sz = 1 from rfl, Nat.mul_one] at hv750_0
                        replace hv750_0 := Option.some.inj (hv750_0.symm.trans hx750_0)
                        rw [hv750_0] at ge750_0
                        have HL750_0 := Aside0.mk (show Kd.R (Kd.int .i64) 3 _ _ _ _ (rd_L4 t736 x9_2) from ge750_0)
                        clear hv750_0 ge750_0
                        clear hcc750 hce750
                        have HR750_0 := Aside0.mk hi750_0
                        have HC750_0 := Aside0.mk hl750_0
                        clear hi750_0 hl750_0
                        replace p750 := eq_true p750
                        replace q750 := eq_true q750
                        have p751 : 0 ≤ (x11_4 : Int) := of_decide_eq_true (by first | (with_reducible assumption) | assumption)
                        have q751 : x11_4 < ((rd_L4 t736 x9_2).length : Int) := of_decide_eq_true (by first | (with_reducible assumption) | assumption)
                        obtain ⟨ad751, e751, hx751_0⟩ := Kd.at_int (by repeat (first | (with_reducible exact HR750_0.out) | (with_reducible refine Kd.C_alloc ?_ _) | (with_reducible refine Kd.C_drewN ?_ _) | (with_reducible refine Kd.C_drew ?_) | exact HR750_0.out)) x11_4 p751 q751
                        cases e751
                        replace p751 := eq_true p751
                        replace q751 := eq_true q751
                        go_wp2
                        repeat (go_quiet (fail); try go_wp2)
                        go_roundg k4
                        case measure => have := HK1.out; have := HK2.out; have := HK3.out; have := HK4.out; omega
                        case rel => exact ⟨(wrap64 (x11_4 + 1)), (by first | rfl | (simp; done) | (simp [*]; done)), H', ⟨by have := HK1.out; have := HK2.out; have := HK3.out; have := HK4.out; omega⟩, ⟨by (with_reducible repeat (first | apply Kd.S_alloc | apply Kd.S_drewN | apply Kd.S_drew)); exact HO_5.out⟩, ⟨by (with_reducible repeat (first | apply Kd.R_alloc | apply Kd.R_drewN | apply Kd.R_drew)); exact HO_8.out⟩, ⟨by repeat (first | (with_reducible first | exact HB.out | apply below_alloc | apply pw_below_drewN | apply below_drew1) | exact HB.out)⟩⟩
                      ·rw [if_neg c27] at H
                       exact absurd H (by simp)
                     ·rw [if_neg c26] at H
                      exact absurd H (by simp)
                    ·rw [if_neg c25] at H
                     exact absurd H (by simp)
                   ·rw [if_neg c24] at H
                    exact absurd H (by simp)
                  ·rw [if_neg c23] at H
                   have c23b0 : decide (x11_4 ≤ t729) = false := decide_eq_false c23
                   clear c23
                   have HC35 := Aside0.mk H
                   clear H
                   go_upto_region 26 with (fail)
                   repeat (go_quiet (fail); go_upto_region 26 with (fail))
                   go_cut [135] (fun v135 wc => ∃ (kq : Nat) (x135_34 : Bool), v135 = .bool x135_34 ∧ Aside0 (l14_BoundsClosed.j4 kq t729 t736 x8_3 x9_2 x10_3 x135_34 = some r) ∧ Aside0 (kq ≤ k4) ∧ Aside0 (Kd.S (Kd.slice 3 (Kd.int .i64)) 22 wc w.heap.size (fun _ => True) (.slice (some ad748) t736.length co12) t736) ∧ Aside0 (Kd.R k55 55 wc w.heap.size (fun _ => True) u8 x8_3) ∧ Aside0 (Below w.heap.size w wc))
                   case first =>
                    have H := HC35.out
                    clear HC35
                    by_cases c36 : x9_2 = x10_3
                    ·rw [if_pos c36] at H
                     have c36b0 : (x9_2 == x10_3) = true := beq_iff_eq.mpr c36
                     have c36b1 : (x9_2 != x10_3) = false := bne_eq_false_iff_eq.mpr c36
                     clear c36
                     (first | rw [c36b0] | (simp only [i64_w, i32_w]; rw [c36b0]) | skip)
                     have H' := Aside0.mk H
                     clear H
                     go_wp2
                     repeat (go_quiet (fail); try go_wp2)
                     go_meet
                     case rel => exact ⟨_, (false), (by first | rfl | (simp; done) | (simp [*]; done)), H', ⟨by have := HK1.out; have := HK2.out; have := HK3.out; have := HK4.out; first | omega | exact Nat.le_refl _⟩, ⟨by (with_reducible repeat (first | apply Kd.S_alloc | apply Kd.S_drewN | apply Kd.S_drew)); exact HO_5.out⟩, ⟨by (with_reducible repeat (first | apply Kd.R_alloc | apply Kd.R_drewN | apply Kd.R_drew)); exact HO_8.out⟩, ⟨by repeat (first | (with_reducible first | exact HB.out | apply below_alloc | apply pw_below_drewN | apply below_drew1) | exact HB.out)⟩⟩
                    ·rw [if_neg c36] at H
                     have c36b0 : (x9_2 == x10_3) = false := beq_eq_false_iff_ne.mpr c36
                     have c36b1 : (x9_2 != x10_3) = true := bne_iff_ne.mpr c36
                     (first | rw [c36b0] | (simp only [i64_w, i32_w]; rw [c36b0]) | skip)
                     by_cases c37 : 0 ≤ x9_2
                     ·rw [if_pos c37] at H
                      have c37b0 : decide (0 ≤ x9_2) = true := decide_eq_true c37
                      clear c37
                      by_cases c38 : x9_2 < (t736.length : Int)
                      ·rw [if_pos c38] at H
                       have c38b0 : decide (x9_2 < (t736.length : Int)) = true := decide_eq_true c38
                       clear c38
                       by_cases c39 : 0 ≤ x10_3
                       ·rw [if_pos c39] at H
                        have c39b0 : decide (0 ≤ x10_3) = true := decide_eq_true c39
                        clear c39
                        by_cases c40 : x10_3 < ((rd_L4 t736 x9_2).length : Int)
                        ·rw [if_pos c40] at H
                         have c40b0 : decide (x10_3 < ((rd_L4 t736 x9_2).length : Int)) = true := decide_eq_true c40
                         clear c40
                         have H' := Aside0.mk H
                         clear H
                         have p760 : 0 ≤ (x9_2 : Int) := of_decide_eq_true (by first | (with_reducible assumption) | assumption)
                         have q760 : x9_2 < (t736.length : Int) := of_decide_eq_true (by first | (with_reducible assumption) | assumption)
                         obtain ⟨ad760, A760_0, c760_0, e760, hx760_0, hl760_0, hi760_0⟩ := at_L4 (Kd.S_reads' HO_5.out).2.2 x9_2 p760 q760
                         obtain rfl : ad748 = ad760 := (by injection e760)
                         obtain ⟨ce760, hce760, hMe760, hcc760⟩ := Kd.S_get HO_5.out [] x9_2 p760 (by first | exact q760 | exact of_decide_eq_true (by first | (with_reducible assumption) | assumption) | (have e_ := (Kd.S_reads' HO_5.out).1; omega))
                         obtain ⟨ve760_0, rfl, ge760_0⟩ := hMe760
                         have hv760_0 := hcc760 0 _ rfl
                         rw [Nat.add_zero, show ((Kd.slice 3 (Kd.int .i64))).sz = 1 from rfl, Nat.mul_one] at hv760_0
                         replace hv760_0 := Option.some.inj (hv760_0.symm.trans hx760_0)
                         rw [hv760_0] at ge760_0
                         have HL760_0 := Aside0.mk (show Kd.R (Kd.int .i64) 3 _ _ _ _ (rd_L4 t736 x9_2) from ge760_0)
                         clear hv760_0 ge760_0
                         clear hcc760 hce760
                         have HR760_0 := Aside0.mk hi760_0
                         have HC760_0 := Aside0.mk hl760_0
                         clear hi760_0 hl760_0
                         replace p760 := eq_true p760
                         replace q760 := eq_true q760
                         have p761 : 0 ≤ (x10_3 : Int) := of_decide_eq_true (by first | (with_reducible assumption) | assumption)
                         have q761 : x10_3 < ((rd_L4 t736 x9_2).length : Int) := of_decide_eq_true (by first | (with_reducible assumption) | assumption)
                         obtain ⟨ad761, e761, hx761_0⟩ := Kd.at_int (by repeat (first | (with_reducible exact HR760_0.out) | (with_reducible refine Kd.C_alloc ?_ _) | (with_reducible refine Kd.C_drewN ?_ _) | (with_reducible refine Kd.C_drew ?_) | exact HR760_0.out)) x10_3 p761 q761
                         cases e761
                         replace p761 := eq_true p761
                         replace q761 := eq_true q761
                         go_wp2
                         repeat (go_quiet (fail); try go_wp2)
                         go_meet
                         case rel => exact ⟨_, (decide ((rd (rd_L4 t736 x9_2) x10_3) < 1099511627776)), (by first | rfl | (simp; done) | (simp [*]; done)), H', ⟨by have := HK1.out; have := HK2.out; have := HK3.out; have := HK4.out; first | omega | exact Nat.le_refl _⟩, ⟨by (with_reducible repeat (first | apply Kd.S_alloc | apply Kd.S_drewN | apply Kd.S_drew)); exact HO_5.out⟩, ⟨by (with_reducible repeat (first | apply Kd.R_alloc | apply Kd.R_drewN | apply Kd.R_drew)); exact HO_8.out⟩, ⟨by repeat (first | (with_reducible first | exact HB.out | apply below_alloc | apply pw_below_drewN | apply below_drew1) | exact HB.out)⟩⟩
                        ·rw [if_neg c40] at H
                         exact absurd H (by simp)
                       ·rw [if_neg c39] at H
                        exact absurd H (by simp)
                      ·rw [if_neg c38] at H
                       exact absurd H (by simp)
                     ·rw [if_neg c37] at H
                      exact absurd H (by simp)
                   case rest =>
                    clear HC35
                    try clear c1
                    try clear c2
                    try clear p2
                    try clear c3
                    try clear c4
                    try clear c5
                    try clear c5b0
                    try clear c5b1
                    try clear c6
                    try clear c6b0
                    try clear c6b1
                    try clear p6
                    try clear c7
                    try clear p7
                    try clear q7
                    try clear hx7
                    try clear c8
                    try clear c13
                    try clear c13b0
                    try clear c14
                    try clear c14b0
                    try clear c15
                    try clear c15b0
                    try clear c16
                    try clear c16b0
                    try clear c16b1
                    try clear c17
                    try clear c17b0
                    try clear c18
                    try clear c18b0
                    try clear c19
                    try clear c19b0
                    try clear c20
                    try clear c20b0
                    try clear c21
                    try clear c21b0
                    try clear c21b1
                    try clear c22
                    try clear c22b0
                    try clear c23
                    try clear c23b0
                    try clear c24
                    try clear c24b0
                    try clear c25
                    try clear c25b0
                    try clear c26
                    try clear c26b0
                    try clear c27
                    try clear c27b0
                    try clear c28
                    try clear c28b0
                    try clear c29
                    try clear c29b0
                    try clear c30
                    try clear c30b0
                    try clear c31
                    try clear c31b0
                    try clear c32
                    try clear c32b0
                    try clear c33
                    try clear c33b0
                    try clear c34
                    try clear c34b0
                    try clear c36
                    try clear c36b0
                    try clear c36b1
                    try clear c37
                    try clear c37b0
                    try clear c38
                    try clear c38b0
                    try clear c39
                    try clear c39b0
                    try clear c40
                    try clear c40b0
                    try clear hx741_0
                    try clear hx748_0
                    try clear hx749_0
                    try clear hx750_0
                    try clear hx751_0
                    try clear hx752_0
                    try clear hx753_0
                    try clear hx754_0
                    try clear hx755_0
                    try clear hx756_0
                    try clear hx757_0
                    try clear hx758_0
                    try clear hx759_0
                    try clear hx760_0
                    try clear hx761_0
                    try clear p2
                    try clear p6
                    try clear p7
                    try clear p741
                    try clear p748
                    try clear p749
                    try clear p750
                    try clear p751
                    try clear p752
                    try clear p753
                    try clear p754
                    try clear p755
                    try clear p756
                    try clear p757
                    try clear p758
                    try clear p759
                    try clear p760
                    try clear p761
                    try clear q7
                    try clear q741
                    try clear q748
                    try clear q749
                    try clear q750
                    try clear q751
                    try clear q752
                    try clear q753
                    try clear q754
                    try clear q755
                    try clear q756
                    try clear q757
                    try clear q758
                    try clear q759
                    try clear q760
                    try clear q761
                    obtain ⟨kq, x135_34, rfl, HA, HJ34, HO_5, HO_8, HB⟩ := hcut
                    cases kq with
                    | zero => exact absurd HA.out (by simp [l14_BoundsClosed.j4])
                    | succ kj34 =>
                     have H := HA.out
                     clear HA
                     simp only [l14_BoundsClosed.j4] at H
                     by_cases c41 : x135_34 = true
                     ·subst c41
                      have H1 : (if 0 ≤ x9_2 then (if x9_2 < (t736.length : Int) then (if 0 ≤ x10_3 then (if x10_3 < ((rd_L4 t736 x9_2).length : Int) then (if x9_2 = t729 then (if x10_3 = t729 then (if x8_3.length < 5864062014805 then (l14_BoundsClosed.l2 kj34 t729 t736 (x8_3 ++ [(⟨(-1), (-1), rd (rd_L4 t736 x9_2) x10_3⟩ : S55)]) x9_2 (wrap64 (x10_3 + 1))) else (none)) else (if x8_3.length < 5864062014805 then (l14_BoundsClosed.l2 kj34 t729 t736 (x8_3 ++ [(⟨(-1), x10_3, rd (rd_L4 t736 x9_2) x10_3⟩ : S55)]) x9_2 (wrap64 (x10_3 + 1))) else (none))) else (if x10_3 = t729 then (if x8_3.length < 5864062014805 then (l14_BoundsClosed.l2 kj34 t729 t736 (x8_3 ++ [(⟨x9_2, (-1), rd (rd_L4 t736 x9_2) x10_3⟩ : S55)]) x9_2 (wrap64 (x10_3 + 1))) else (none)) else (if x8_3.length < 5864062014805 then (l14_BoundsClosed.l2 kj34 t729 t736 (x8_3 ++ [(⟨x9_2, x10_3, rd (rd_L4 t736 x9_2) x10_3⟩ : S55)]) x9_2 (wrap64 (x10_3 + 1))) else (none)))) else (none)) else (none)) else (none)) else (none)) = some r := by rw [if_pos rfl] at H; exact H
                      clear H
                      have H := H1
                      clear H1
                      by_cases c42 : 0 ≤ x9_2
                      ·rw [if_pos c42] at H
                       have c42b0 : decide (0 ≤ x9_2) = true := decide_eq_true c42
                       clear c42
                       by_cases c43 : x9_2 < (t736.length : Int)
                       ·rw [if_pos c43] at H
                        have c43b0 : decide (x9_2 < (t736.length : Int)) = true := decide_eq_true c43
                        clear c43
                        by_cases c44 : 0 ≤ x10_3
                        ·rw [if_pos c44] at H
                         have c44b0 : decide (0 ≤ x10_3) = true := decide_eq_true c44
                         clear c44
                         by_cases c45 : x10_3 < ((rd_L4 t736 x9_2).length : Int)
                         ·rw [if_pos c45] at H
                          have c45b0 : decide (x10_3 < ((rd_L4 t736 x9_2).length : Int)) = true := decide_eq_true c45
                          clear c45
                          have p762 : 0 ≤ (x9_2 : Int) := of_decide_eq_true (by first | (with_reducible assumption) | assumption)
                          have q762 : x9_2 < (t736.length : Int) := of_decide_eq_true (by first | (with_reducible assumption) | assumption)
                          obtain ⟨ad762, A762_0, c762_0, e762, hx762_0, hl762_0, hi762_0⟩ := at_L4 (Kd.S_reads' HO_5.out).2.2 x9_2 p762 q762
                          obtain rfl : ad748 = ad762 := (by injection e762)
                          obtain ⟨ce762, hce762, hMe762, hcc762⟩ := Kd.S_get HO_5.out [] x9_2 p762 (by first | exact q762 | exact of_decide_eq_true (by first | (with_reducible assumption) | assumption) | (have e_ := (Kd.S_reads' HO_5.out).1; omega))
                          obtain ⟨ve762_0, rfl, ge762_0⟩ := hMe762
                          have hv762_0 := hcc762 0 _ rfl
                          rw [Nat.add_zero, show ((Kd.slice 3 (Kd.int .i64))).sz = 1 from rfl, Nat.mul_one] at hv762_0
                          replace hv762_0 := Option.some.inj (hv762_0.symm.trans hx762_0)
                          rw [hv762_0] at ge762_0
                          have HL762_0 := Aside0.mk (show Kd.R (Kd.int .i64) 3 _ _ _ _ (rd_L4 t736 x9_2) from ge762_0)
                          clear hv762_0 ge762_0
                          clear hcc762 hce762
                          have HR762_0 := Aside0.mk hi762_0
                          have HC762_0 := Aside0.mk hl762_0
                          clear hi762_0 hl762_0
                          replace p762 := eq_true p762
                          replace q762 := eq_true q762
                          have p763 : 0 ≤ (x10_3 : Int) := of_decide_eq_true (by first | (with_reducible assumption) | assumption)
                          have q763 : x10_3 < ((rd_L4 t736 x9_2).length : Int) := of_decide_eq_true (by first | (with_reducible assumption) | assumption)
                          obtain ⟨ad763, e763, hx763_0⟩ := Kd.at_int (by repeat (first | (with_reducible exact HR762_0.out) | (with_reducible refine Kd.C_alloc ?_ _) | (with_reducible refine Kd.C_drewN ?_ _) | (with_reducible refine Kd.C_drew ?_) | exact HR762_0.out)) x10_3 p763 q763
                          cases e763
                          replace p763 := eq_true p763
                          replace q763 := eq_true q763
                          go_upto_region 28 with (first | ((with_reducible refine gate_dst (N := 12) rfl ?_); (try (refine gate_guard (by rfl) ?_; dsimp only)); refine box_event ?hg (N := 12) ?hd (cs := #[.int .i64 0, .int .i64 0, .int .i64 0]) (t := 55) ?hr ?_; (case hd => rfl); (case hg => rfl); (case hr => first | (go_simp; done) | (go_simp; rfl)); intro gb764 hg w49 hbox hb; have n0_ := Aside0.mk (Kd.S_below (by (with_reducible repeat (first | apply Kd.S_alloc | apply Kd.S_drewN | apply Kd.S_drew)); exact HO_5.out) hb); have n1_ := Aside0.mk (Kd.R_below (Kd.R_elderB (by (with_reducible repeat (first | apply Kd.R_alloc | apply Kd.R_drewN | apply Kd.R_drew)); exact HO_8.out) gb764 (Nat.le_of_eq hg.symm)) hb); have n2_ := Aside0.mk (Kd.R_below (by (with_reducible repeat (first | apply Kd.R_alloc | apply Kd.R_drewN | apply Kd.R_drew)); exact HL762_0.out) hb); have n3_ := Aside0.mk (Kd.C_below (by repeat (first | (with_reducible exact HR762_0.out) | (with_reducible refine Kd.C_alloc ?_ _) | (with_reducible refine Kd.C_drewN ?_ _) | (with_reducible refine Kd.C_drew ?_) | exact HR762_0.out)) hb); have n4_ := Aside0.mk (below_step (by repeat (first | (with_reducible first | exact HB.out | apply below_alloc | apply pw_below_drewN | apply below_drew1) | exact HB.out)) hb); have n5_ := Aside0.mk (hbox); have n6_ := Aside0.mk ((by rw [hg]; exact (below_size (by repeat (first | (with_reducible first | exact HB.out | apply below_alloc | apply pw_below_drewN | apply below_drew1) | exact HB.out))) : w.heap.size ≤ gb764)); have n7_ := Aside0.mk ((by rw [hg]; exact (below_size (by repeat (first | (with_reducible first | exact HB.out | apply below_alloc | apply pw_below_drewN | apply below_drew1) | exact HB.out))) : w.heap.size ≤ gb764)); clear HO_5; clear HO_8; clear HL762_0; clear HR762_0; clear HB; have HO_5 := n0_; have HO_8 := n1_; have HL762_0 := n2_; have HR762_0 := n3_; have HB := n4_; have BK764 := n5_; have GW764 := n6_; have GE764 := n7_; clear n0_ n1_ n2_ n3_ n4_ n5_ n6_ n7_; clear hb hbox hg; have hcz50_0 : w49.cell? ⟨gb764, 0, none⟩ = some (.int .i64 0) := (blk_cell BK764.out 0).trans rfl; have hcz50_1 : w49.cell? ⟨gb764, 1, none⟩ = some (.int .i64 0) := (blk_cell BK764.out 1).trans rfl; have hcz50_2 : w49.cell? ⟨gb764, 2, none⟩ = some (.int .i64 0) := (blk_cell BK764.out 2).trans rfl; have hfz50_0 := blk_frozen BK764.out 0; have hfz50_1 := blk_frozen BK764.out 1; have hfz50_2 := blk_frozen BK764.out 2))
                          have hF := (((InvG.mk (a := 0) (b := 0) (c := 0) BK764.out (Kd.S_mono (Kd.S_types HO_5.out BK764.out (by decide)) (fun _ h => h.2)) (Kd.R_mono HO_8.out (fun _ hk => hk.2)) HB.out GE764.out : InvG w gb764 (.slice (some ad748) t736.length co12) t736 u8 x8_3 0 0 0 w49).put0 x9_2).put1 x10_3).put2 (rd (rd_L4 t736 x9_2) x10_3)
                          clear HO_5 HO_8 HB BK764 GW764 GE764 HL762_0 HR762_0 HC762_0
                          generalize ((w49.setCell { block := gb764, off := 0 } (Value.int IntKind.i64 x9_2)).setCell { block := gb764, off := 1 } (Value.int IntKind.i64 x10_3)).setCell { block := gb764, off := 2 } (Value.int IntKind.i64 (rd (rd_L4 t736 x9_2) x10_3)) = W5 at hF ⊢
                          generalize rd (rd_L4 t736 x9_2) x10_3 = dn at H hF ⊢
                          have HF := Aside0.mk hF
                          have HH := Aside0.mk H
                          have hq0 : W5.cell? ⟨gb764, 0, none⟩ = some (.int .i64 x9_2) := (blk_cell hF.k 0).trans rfl
                          have hq1 : W5.cell? ⟨gb764, 1, none⟩ = some (.int .i64 x10_3) := (blk_cell hF.k 1).trans rfl
                          have hq2 : W5.cell? ⟨gb764, 2, none⟩ = some (.int .i64 dn) := (blk_cell hF.k 2).trans rfl
                          have hz0 := blk_frozen hF.k 0
                          have hz1 := blk_frozen hF.k 1
                          have hz2 := blk_frozen hF.k 2
                          clear hF H
                          have H := HH.out
                          by_cases c46 : x9_2 = t729
                          ·rw [if_pos c46] at H
                           have c46b0 : (x9_2 == t729) = true := beq_iff_eq.mpr c46
                           have c46b1 : (x9_2 != t729) = false := bne_eq_false_iff_eq.mpr c46
                           clear c46
                           by_cases c47 : x10_3 = t729
                           ·rw [if_pos c47] at H
                            have c47b0 : (x10_3 == t729) = true := beq_iff_eq.mpr c47
                            have c47b1 : (x10_3 != t729) = false := bne_eq_false_iff_eq.mpr c47
                            clear c47
                            by_cases c48 : x8_3.length < 5864062014805
                            ·rw [if_pos c48] at H
                             have LM := Aside0.mk c48
                             have H' := Aside0.mk H
                             clear H c48 HH
                             have HI := Aside0.mk ((HF.out.put0 (-1)).put1 (-1))
                             clear HF
                             go_wp2_with (first | ((with_reducible refine gate_builtin (b := .append) (xs := #[.tmp 154, .tmp 156]) rfl ?_); (try (refine gate_guard (by rfl) ?_; dsimp only)); at_builtin; have hI := HI.out; refine Kd.R_append k55 (w0 := w) w.heap.size rfl (.tmp 154) (.tmp 156) 33 55 (.agg #[(.int .i64 0), (.int .i64 0), (.int .i64 0)]) 24 rfl Try.underlying33 info55 rfl (by decide) (by omega) u8 x8_3 (⟨-1, -1, dn⟩ : S55) [.int .i64 (-1), .int .i64 (-1), .int .i64 dn] (fun k_ => k_ ≠ gb764) (fun _ => False) rfl (by first | (go_simp; done) | (go_simp; rfl)) (k55_mkM _ _ _ (⟨-1, -1, dn⟩ : S55)) (fun _ hk => hk.elim) (Kd.freshB hI.k) hI.x hI.b (below_size hI.b) (by have := LM.out; omega) ?_; intro v625 w33 ho hb hg hat; have HD := Aside0.mk (Kd.S_over' hI.d (Kd.R_typed hI.x) (by decide) hg); have HX := Aside0.mk ho; have HB := Aside0.mk hb; clear hI ho hb hg hat HI))
                             go_roundg kj34
                             case measure => have := HK1.out; have := HK2.out; have := HK3.out; have := HK4.out; have := HJ34.out; omega
                             case rel => exact ⟨x8_3 ++ [(⟨-1, -1, dn⟩ : S55)], (wrap64 (x10_3 + 1)), (by first | rfl | (simp; done) | (simp [*]; done)), H', ⟨by have := HK1.out; have := HK2.out; have := HK3.out; have := HK4.out; have := HJ34.out; omega⟩, ⟨Kd.S_mono HD.out (fun _ _ => trivial)⟩, ⟨Kd.R_mono HX.out (fun _ _ => trivial)⟩, ⟨HB.out⟩⟩
                            ·rw [if_neg c48] at H
                             exact absurd H (by simp)
                           ·rw [if_neg c47] at H
                            have c47b0 : (x10_3 == t729) = false := beq_eq_false_iff_ne.mpr c47
                            have c47b1 : (x10_3 != t729) = true := bne_iff_ne.mpr c47
                            clear c47
                            by_cases c48 : x8_3.length < 5864062014805
                            ·rw [if_pos c48] at H
                             have LM := Aside0.mk c48
                             have H' := Aside0.mk H
                             clear H c48 HH
                             have HI := Aside0.mk (HF.out.put0 (-1))
                             clear HF
                             go_wp2_with (first | ((with_reducible refine gate_builtin (b := .append) (xs := #[.tmp 154, .tmp 156]) rfl ?_); (try (refine gate_guard (by rfl) ?_; dsimp only)); at_builtin; have hI := HI.out; refine Kd.R_append k55 (w0 := w) w.heap.size rfl (.tmp 154) (.tmp 156) 33 55 (.agg #[(.int .i64 0), (.int .i64 0), (.int .i64 0)]) 24 rfl Try.underlying33 info55 rfl (by decide) (by omega) u8 x8_3 (⟨-1, x10_3, dn⟩ : S55) [.int .i64 (-1), .int .i64 (x10_3), .int .i64 dn] (fun k_ => k_ ≠ gb764) (fun _ => False) rfl (by first | (go_simp; done) | (go_simp; rfl)) (k55_mkM _ _ _ (⟨-1, x10_3, dn⟩ : S55)) (fun _ hk => hk.elim) (Kd.freshB hI.k) hI.x hI.b (below_size hI.b) (by have := LM.out; omega) ?_; intro v625 w33 ho hb hg hat; have HD := Aside0.mk (Kd.S_over' hI.d (Kd.R_typed hI.x) (by decide) hg); have HX := Aside0.mk ho; have HB := Aside0.mk hb; clear hI ho hb hg hat HI))
                             go_roundg kj34
                             case measure => have := HK1.out; have := HK2.out; have := HK3.out; have := HK4.out; have := HJ34.out; omega
                             case rel => exact ⟨x8_3 ++ [(⟨-1, x10_3, dn⟩ : S55)], (wrap64 (x10_3 + 1)), (by first | rfl | (simp; done) | (simp [*]; done)), H', ⟨by have := HK1.out; have := HK2.out; have := HK3.out; have := HK4.out; have := HJ34.out; omega⟩, ⟨Kd.S_mono HD.out (fun _ _ => trivial)⟩, ⟨Kd.R_mono HX.out (fun _ _ => trivial)⟩, ⟨HB.out⟩⟩
                            ·rw [if_neg c48] at H
                             exact absurd H (by simp)
                          ·rw [if_neg c46] at H
                           have c46b0 : (x9_2 == t729) = false := beq_eq_false_iff_ne.mpr c46
                           have c46b1 : (x9_2 != t729) = true := bne_iff_ne.mpr c46
                           clear c46
                           by_cases c47 : x10_3 = t729
                           ·rw [if_pos c47] at H
                            have c47b0 : (x10_3 == t729) = true := beq_iff_eq.mpr c47
                            have c47b1 : (x10_3 != t729) = false := bne_eq_false_iff_eq.mpr c47
                            clear c47
                            by_cases c48 : x8_3.length < 5864062014805
                            ·rw [if_pos c48] at H
                             have LM := Aside0.mk c48
                             have H' := Aside0.mk H
                             clear H c48 HH
                             have HI := Aside0.mk (HF.out.put1 (-1))
                             clear HF
                             go_wp2_with (first | ((with_reducible refine gate_builtin (b := .append) (xs := #[.tmp 154, .tmp 156]) rfl ?_); (try (refine gate_guard (by rfl) ?_; dsimp only)); at_builtin; have hI := HI.out; refine Kd.R_append k55 (w0 := w) w.heap.size rfl (.tmp 154) (.tmp 156) 33 55 (.agg #[(.int .i64 0), (.int .i64 0), (.int .i64 0)]) 24 rfl Try.underlying33 info55 rfl (by decide) (by omega) u8 x8_3 (⟨x9_2, -1, dn⟩ : S55) [.int .i64 (x9_2), .int .i64 (-1), .int .i64 dn] (fun k_ => k_ ≠ gb764) (fun _ => False) rfl (by first | (go_simp; done) | (go_simp; rfl)) (k55_mkM _ _ _ (⟨x9_2, -1, dn⟩ : S55)) (fun _ hk => hk.elim) (Kd.freshB hI.k) hI.x hI.b (below_size hI.b) (by have := LM.out; omega) ?_; intro v625 w33 ho hb hg hat; have HD := Aside0.mk (Kd.S_over' hI.d (Kd.R_typed hI.x) (by decide) hg); have HX := Aside0.mk ho; have HB := Aside0.mk hb; clear hI ho hb hg hat HI))
                             go_roundg kj34
                             case measure => have := HK1.out; have := HK2.out; have := HK3.out; have := HK4.out; have := HJ34.out; omega
                             case rel => exact ⟨x8_3 ++ [(⟨x9_2, -1, dn⟩ : S55)], (wrap64 (x10_3 + 1)), (by first | rfl | (simp; done) | (simp [*]; done)), H', ⟨by have := HK1.out; have := HK2.out; have := HK3.out; have := HK4.out; have := HJ34.out; omega⟩, ⟨Kd.S_mono HD.out (fun _ _ => trivial)⟩, ⟨Kd.R_mono HX.out (fun _ _ => trivial)⟩, ⟨HB.out⟩⟩
                            ·rw [if_neg c48] at H
                             exact absurd H (by simp)
                           ·rw [if_neg c47] at H
                            have c47b0 : (x10_3 == t729) = false := beq_eq_false_iff_ne.mpr c47
                            have c47b1 : (x10_3 != t729) = true := bne_iff_ne.mpr c47
                            clear c47
                            by_cases c48 : x8_3.length < 5864062014805
                            ·rw [if_pos c48] at H
                             have LM := Aside0.mk c48
                             have H' := Aside0.mk H
                             clear H c48 HH
                             have HI := Aside0.mk HF.out
                             clear HF
                             go_wp2_with (first | ((with_reducible refine gate_builtin (b := .append) (xs := #[.tmp 154, .tmp 156]) rfl ?_); (try (refine gate_guard (by rfl) ?_; dsimp only)); at_builtin; have hI := HI.out; refine Kd.R_append k55 (w0 := w) w.heap.size rfl (.tmp 154) (.tmp 156) 33 55 (.agg #[(.int .i64 0), (.int .i64 0), (.int .i64 0)]) 24 rfl Try.underlying33 info55 rfl (by decide) (by omega) u8 x8_3 (⟨x9_2, x10_3, dn⟩ : S55) [.int .i64 (x9_2), .int .i64 (x10_3), .int .i64 dn] (fun k_ => k_ ≠ gb764) (fun _ => False) rfl (by first | (go_simp; done) | (go_simp; rfl)) (k55_mkM _ _ _ (⟨x9_2, x10_3, dn⟩ : S55)) (fun _ hk => hk.elim) (Kd.freshB hI.k) hI.x hI.b (below_size hI.b) (by have := LM.out; omega) ?_; intro v625 w33 ho hb hg hat; have HD := Aside0.mk (Kd.S_over' hI.d (Kd.R_typed hI.x) (by decide) hg); have HX := Aside0.mk ho; have HB := Aside0.mk hb; clear hI ho hb hg hat HI))
                             go_roundg kj34
                             case measure => have := HK1.out; have := HK2.out; have := HK3.out; have := HK4.out; have := HJ34.out; omega
                             case rel => exact ⟨x8_3 ++ [(⟨x9_2, x10_3, dn⟩ : S55)], (wrap64 (x10_3 + 1)), (by first | rfl | (simp; done) | (simp [*]; done)), H', ⟨by have := HK1.out; have := HK2.out; have := HK3.out; have := HK4.out; have := HJ34.out; omega⟩, ⟨Kd.S_mono HD.out (fun _ _ => trivial)⟩, ⟨Kd.R_mono HX.out (fun _ _ => trivial)⟩, ⟨HB.out⟩⟩
                            ·rw [if_neg c48] at H
                             exact absurd H (by simp)
                         ·rw [if_neg c45] at H
                          exact absurd H (by simp)
                        ·rw [if_neg c44] at H
                         exact absurd H (by simp)
                       ·rw [if_neg c43] at H
                        exact absurd H (by simp)
                      ·rw [if_neg c42] at H
                       exact absurd H (by simp)
                     ·replace c41 := Bool.eq_false_iff.mpr c41
                      subst c41
                      have H1 : (l14_BoundsClosed.l2 kj34 t729 t736 x8_3 x9_2 (wrap64 (x10_3 + 1))) = some r := by rw [if_neg (show ¬ (false = true) by decide)] at H; exact H
                      clear H
                      have H := H1
                      clear H1
                      have H' := Aside0.mk H
                      clear H
                      go_wp2
                      repeat (go_quiet (fail); try go_wp2)
                      go_roundg kj34
                      case measure => have := HK1.out; have := HK2.out; have := HK3.out; have := HK4.out; have := HJ34.out; omega
                      case rel => exact ⟨(x8_3), (wrap64 (x10_3 + 1)), (by first | rfl | (simp; done) | (simp [*]; done)), H', ⟨by have := HK1.out; have := HK2.out; have := HK3.out; have := HK4.out; have := HJ34.out; omega⟩, ⟨by (with_reducible repeat (first | apply Kd.S_alloc | apply Kd.S_drewN | apply Kd.S_drew)); exact HO_5.out⟩, ⟨by (with_reducible repeat (first | apply Kd.R_alloc | apply Kd.R_drewN | apply Kd.R_drew)); exact HO_8.out⟩, ⟨by repeat (first | (with_reducible first | exact HB.out | apply below_alloc | apply pw_below_drewN | apply below_drew1) | exact HB.out)⟩⟩
               ·rw [if_neg c22] at H
                have c22b0 : decide (x10_3 ≤ t729) = false := decide_eq_false c22
                clear c22
                have H' := Aside0.mk H
                clear H
                go_wp2
                repeat (go_quiet (fail); try go_wp2)
                go_roundg k3
                case measure => have := HK1.out; have := HK2.out; have := HK3.out; omega
                case rel => exact ⟨(x8_3), (wrap64 (x9_2 + 1)), (by first | rfl | (simp; done) | (simp [*]; done)), H', ⟨by have := HK1.out; have := HK2.out; have := HK3.out; omega⟩, ⟨by (with_reducible repeat (first | apply Kd.S_alloc | apply Kd.S_drewN | apply Kd.S_drew)); exact HO_5.out⟩, ⟨by (with_reducible repeat (first | apply Kd.R_alloc | apply Kd.R_drewN | apply Kd.R_drew)); exact HO_8.out⟩, ⟨by repeat (first | (with_reducible first | exact HB.out | apply below_alloc | apply pw_below_drewN | apply below_drew1) | exact HB.out)⟩⟩
            ·rw [if_neg c21] at H
             have c21b0 : ((rd (rd_L4 t736 x9_2) x9_2) == 0) = false := beq_eq_false_iff_ne.mpr c21
             have c21b1 : ((rd (rd_L4 t736 x9_2) x9_2) != 0) = true := bne_iff_ne.mpr c21
             exact absurd H (by rw [HT.out]; simp)
           ·rw [if_neg c20] at H
            exact absurd H (by simp)
          ·rw [if_neg c19] at H
           exact absurd H (by simp)
         ·rw [if_neg c18] at H
          exact absurd H (by simp)
        ·rw [if_neg c17] at H
         have c17b0 : decide (x9_2 ≤ t729) = false := decide_eq_false c17
         clear c17
         replace H := Option.bind_eq_some_iff.mp H
         obtain ⟨⟨t742, t743⟩, A650, H⟩ := H
         replace H : (if t743 = 0 then ((r14_SameTables.f k2 t742 t736).bind fun t746 => (if t746 = true then ((l14_lives.f k2).bind fun t747 => (some t747)) else (some false))) else (some false)) = some r := H
         have A65 := Aside0.mk A650
         clear A650
         by_cases c66 : t743 = 0
         ·rw [if_pos c66] at H
          have c66b0 : (t743 == 0) = true := beq_iff_eq.mpr c66
          have c66b1 : (t743 != 0) = false := bne_eq_false_iff_eq.mpr c66
          clear c66
          replace H := Option.bind_eq_some_iff.mp H
          obtain ⟨t746, A670, H⟩ := H
          replace H : (if t746 = true then ((l14_lives.f k2).bind fun t747 => (some t747)) else (some false)) = some r := H
          have A67 := Aside0.mk A670
          clear A670
          by_cases c68 : t746 = true
          ·subst c68
           have H1 : ((l14_lives.f k2).bind fun t747 => (some t747)) = some r := by rw [if_pos rfl] at H; exact H
           clear H
           have H := H1
           clear H1
           replace H := Option.bind_eq_some_iff.mp H
           obtain ⟨t747, A690, H⟩ := H
           replace H : (some t747) = some r := H
           have A69 := Aside0.mk A690
           clear A690
           obtain rfl := Option.some.inj H
           obtain ⟨Ao70, co70, eo70⟩ := Kd.R_slice HO_8.out
           subst eo70
           go_wp2_with (first | (go_at_call 12; (with_reducible refine (bounds_Close.calls k2 t729 _ _ x8_2 t742 t743 _ ?side1 ?side2 A65.out).mono ?_); (case side1 => repeat (first | exact (Kd.R_reads' HO_8.out).2.2 | (with_reducible refine Kd.C_alloc ?_ _) | (with_reducible refine Kd.C_drewN ?_ _) | (with_reducible refine Kd.C_drew ?_))); (case side2 => exact (Kd.R_reads' HO_8.out).2.1); rintro e w71 ⟨v744, rfl, ho0, hb⟩; have n0_ := Aside0.mk (Kd.S_elder' (by (with_reducible repeat (first | apply Kd.S_alloc | apply Kd.S_drewN | apply Kd.S_drew)); exact HO_5.out) (Kd.S_base ho0) hb); have n1_ := Aside0.mk (Kd.R_below (by (with_reducible repeat (first | apply Kd.R_alloc | apply Kd.R_drewN | apply Kd.R_drew)); exact HO_8.out) hb); have n2_ := Aside0.mk (Kd.S_lower (Kd.S_new' ho0 (Kd.S_lt (by (with_reducible repeat (first | apply Kd.S_alloc | apply Kd.S_drewN | apply Kd.S_drew)); exact HO_5.out))) (below_size (by repeat (first | (with_reducible first | exact HB.out | apply below_alloc | apply pw_below_drewN | apply below_drew1) | exact HB.out)))); have n3_ := Aside0.mk (below_step (by repeat (first | (with_reducible first | exact HB.out | apply below_alloc | apply pw_below_drewN | apply below_drew1) | exact HB.out)) hb); clear HO_5; clear HO_8; clear HB; have HO_5 := n0_; have HO_8 := n1_; have HO745 := n2_; have HB := n3_; clear n0_ n1_ n2_ n3_; (try clear hb); (try clear hb2); (try clear hk); (try clear hi); (try clear ho0); obtain ⟨Ao72, co72, eo72⟩ := Kd.S_slice HO745.out; subst eo72) | (go_at_call 17; (with_reducible refine (r14_SameTables.calls k2 _ _ t742 _ _ t736 true _ ?side1 ?side2 ?side3 ?side4 A67.out).mono ?_); (case side1 => repeat (first | exact (Kd.S_reads' HO745.out).2.2 | (with_reducible refine Kd.C_alloc ?_ _) | (with_reducible refine Kd.C_drewN ?_ _) | (with_reducible refine Kd.C_drew ?_))); (case side2 => exact (Kd.S_reads' HO745.out).2.1); (case side3 => repeat (first | exact (Kd.S_reads' HO_5.out).2.2 | (with_reducible refine Kd.C_alloc ?_ _) | (with_reducible refine Kd.C_drewN ?_ _) | (with_reducible refine Kd.C_drew ?_))); (case side4 => exact (Kd.S_reads' HO_5.out).2.1); rintro e w' ⟨rfl, ⟨nd, rfl⟩⟩; (try first | exact ⟨rfl, _, World.drewN_drewN _ _ _⟩ | exact ⟨rfl, _, Eq.trans (World.drewN_drewN _ _ _) (congrArg (World.drewN _) (Nat.add_assoc _ _ _))⟩)) | (go_at_call 19; (with_reducible refine (l14_lives.calls k2  t747 _ A69.out).mono ?_); rintro e w73 ⟨rfl, hb⟩; have n0_ := Aside0.mk (Kd.S_below (by (with_reducible repeat (first | apply Kd.S_alloc | apply Kd.S_drewN | apply Kd.S_drew)); exact HO_5.out) hb); have n1_ := Aside0.mk (Kd.R_below (by (with_reducible repeat (first | apply Kd.R_alloc | apply Kd.R_drewN | apply Kd.R_drew)); exact HO_8.out) hb); have n2_ := Aside0.mk (Kd.S_below (by (with_reducible repeat (first | apply Kd.S_alloc | apply Kd.S_drewN | apply Kd.S_drew)); exact HO745.out) hb); have n3_ := Aside0.mk (below_step (by repeat (first | (with_reducible first | exact HB.out | apply below_alloc | apply pw_below_drewN | apply below_drew1) | exact HB.out)) hb); clear HO_5; clear HO_8; clear HO745; clear HB; have HO_5 := n0_; have HO_8 := n1_; have HO745 := n2_; have HB := n3_; clear n0_ n1_ n2_ n3_; (try clear hb); (try clear hb2); (try clear hk); (try clear hi)))
           repeat (go_quiet (first | (go_at_call 12; (with_reducible refine (bounds_Close.calls k2 t729 _ _ x8_2 t742 t743 _ ?side1 ?side2 A65.out).mono ?_); (case side1 => repeat (first | exact (Kd.R_reads' HO_8.out).2.2 | (with_reducible refine Kd.C_alloc ?_ _) | (with_reducible refine Kd.C_drewN ?_ _) | (with_reducible refine Kd.C_drew ?_))); (case side2 => exact (Kd.R_reads' HO_8.out).2.1); rintro e w71 ⟨v744, rfl, ho0, hb⟩; have n0_ := Aside0.mk (Kd.S_elder' (by (with_reducible repeat (first | apply Kd.S_alloc | apply Kd.S_drewN | apply Kd.S_drew)); exact HO_5.out) (Kd.S_base ho0) hb); have n1_ := Aside0.mk (Kd.R_below (by (with_reducible repeat (first | apply Kd.R_alloc | apply Kd.R_drewN | apply Kd.R_drew)); exact HO_8.out) hb); have n2_ := Aside0.mk (Kd.S_lower (Kd.S_new' ho0 (Kd.S_lt (by (with_reducible repeat (first | apply Kd.S_alloc | apply Kd.S_drewN | apply Kd.S_drew)); exact HO_5.out))) (below_size (by repeat (first | (with_reducible first | exact HB.out | apply below_alloc | apply pw_below_drewN | apply below_drew1) | exact HB.out)))); have n3_ := Aside0.mk (below_step (by repeat (first | (with_reducible first | exact HB.out | apply below_alloc | apply pw_below_drewN | apply below_drew1) | exact HB.out)) hb); clear HO_5; clear HO_8; clear HB; have HO_5 := n0_; have HO_8 := n1_; have HO745 := n2_; have HB := n3_; clear n0_ n1_ n2_ n3_; (try clear hb); (try clear hb2); (try clear hk); (try clear hi); (try clear ho0); obtain ⟨Ao72, co72, eo72⟩ := Kd.S_slice HO745.out; subst eo72) | (go_at_call 17; (with_reducible refine (r14_SameTables.calls k2 _ _ t742 _ _ t736 true _ ?side1 ?side2 ?side3 ?side4 A67.out).mono ?_); (case side1 => repeat (first | exact (Kd.S_reads' HO745.out).2.2 | (with_reducible refine Kd.C_alloc ?_ _) | (with_reducible refine Kd.C_drewN ?_ _) | (with_reducible refine Kd.C_drew ?_))); (case side2 => exact (Kd.S_reads' HO745.out).2.1); (case side3 => repeat (first | exact (Kd.S_reads' HO_5.out).2.2 | (with_reducible refine Kd.C_alloc ?_ _) | (with_reducible refine Kd.C_drewN ?_ _) | (with_reducible refine Kd.C_drew ?_))); (case side4 => exact (Kd.S_reads' HO_5.out).2.1); rintro e w' ⟨rfl, ⟨nd, rfl⟩⟩; (try first | exact ⟨rfl, _, World.drewN_drewN _ _ _⟩ | exact ⟨rfl, _, Eq.trans (World.drewN_drewN _ _ _) (congrArg (World.drewN _) (Nat.add_assoc _ _ _))⟩)) | (go_at_call 19; (with_reducible refine (l14_lives.calls k2  t747 _ A69.out).mono ?_); rintro e w73 ⟨rfl, hb⟩; have n0_ := Aside0.mk (Kd.S_below (by (with_reducible repeat (first | apply Kd.S_alloc | apply Kd.S_drewN | apply Kd.S_drew)); exact HO_5.out) hb); have n1_ := Aside0.mk (Kd.R_below (by (with_reducible repeat (first | apply Kd.R_alloc | apply Kd.R_drewN | apply Kd.R_drew)); exact HO_8.out) hb); have n2_ := Aside0.mk (Kd.S_below (by (with_reducible repeat (first | apply Kd.S_alloc | apply Kd.S_drewN | apply Kd.S_drew)); exact HO745.out) hb); have n3_ := Aside0.mk (below_step (by repeat (first | (with_reducible first | exact HB.out | apply below_alloc | apply pw_below_drewN | apply below_drew1) | exact HB.out)) hb); clear HO_5; clear HO_8; clear HO745; clear HB; have HO_5 := n0_; have HO_8 := n1_; have HO745 := n2_; have HB := n3_; clear n0_ n1_ n2_ n3_; (try clear hb); (try clear hb2); (try clear hk); (try clear hi))); try go_wp2_with (first | (go_at_call 12; (with_reducible refine (bounds_Close.calls k2 t729 _ _ x8_2 t742 t743 _ ?side1 ?side2 A65.out).mono ?_); (case side1 => repeat (first | exact (Kd.R_reads' HO_8.out).2.2 | (with_reducible refine Kd.C_alloc ?_ _) | (with_reducible refine Kd.C_drewN ?_ _) | (with_reducible refine Kd.C_drew ?_))); (case side2 => exact (Kd.R_reads' HO_8.out).2.1); rintro e w71 ⟨v744, rfl, ho0, hb⟩; have n0_ := Aside0.mk (Kd.S_elder' (by (with_reducible repeat (first | apply Kd.S_alloc | apply Kd.S_drewN | apply Kd.S_drew)); exact HO_5.out) (Kd.S_base ho0) hb); have n1_ := Aside0.mk (Kd.R_below (by (with_reducible repeat (first | apply Kd.R_alloc | apply Kd.R_drewN | apply Kd.R_drew)); exact HO_8.out) hb); have n2_ := Aside0.mk (Kd.S_lower (Kd.S_new' ho0 (Kd.S_lt (by (with_reducible repeat (first | apply Kd.S_alloc | apply Kd.S_drewN | apply Kd.S_drew)); exact HO_5.out))) (below_size (by repeat (first | (with_reducible first | exact HB.out | apply below_alloc | apply pw_below_drewN | apply below_drew1) | exact HB.out)))); have n3_ := Aside0.mk (below_step (by repeat (first | (with_reducible first | exact HB.out | apply below_alloc | apply pw_below_drewN | apply below_drew1) | exact HB.out)) hb); clear HO_5; clear HO_8; clear HB; have HO_5 := n0_; have HO_8 := n1_; have HO745 := n2_; have HB := n3_; clear n0_ n1_ n2_ n3_; (try clear hb); (try clear hb2); (try clear hk); (try clear hi); (try clear ho0); obtain ⟨Ao72, co72, eo72⟩ := Kd.S_slice HO745.out; subst eo72) | (go_at_call 17; (with_reducible refine (r14_SameTables.calls k2 _ _ t742 _ _ t736 true _ ?side1 ?side2 ?side3 ?side4 A67.out).mono ?_); (case side1 => repeat (first | exact (Kd.S_reads' HO745.out).2.2 | (with_reducible refine Kd.C_alloc ?_ _) | (with_reducible refine Kd.C_drewN ?_ _) | (with_reducible refine Kd.C_drew ?_))); (case side2 => exact (Kd.S_reads' HO745.out).2.1); (case side3 => repeat (first | exact (Kd.S_reads' HO_5.out).2.2 | (with_reducible refine Kd.C_alloc ?_ _) | (with_reducible refine Kd.C_drewN ?_ _) | (with_reducible refine Kd.C_drew ?_))); (case side4 => exact (Kd.S_reads' HO_5.out).2.1); rintro e w' ⟨rfl, ⟨nd, rfl⟩⟩; (try first | exact ⟨rfl, _, World.drewN_drewN _ _ _⟩ | exact ⟨rfl, _, Eq.trans (World.drewN_drewN _ _ _) (congrArg (World.drewN _) (Nat.add_assoc _ _ _))⟩)) | (go_at_call 19; (with_reducible refine (l14_lives.calls k2  t747 _ A69.out).mono ?_); rintro e w73 ⟨rfl, hb⟩; have n0_ := Aside0.mk (Kd.S_below (by (with_reducible repeat (first | apply Kd.S_alloc | apply Kd.S_drewN | apply Kd.S_drew)); exact HO_5.out) hb); have n1_ := Aside0.mk (Kd.R_below (by (with_reducible repeat (first | apply Kd.R_alloc | apply Kd.R_drewN | apply Kd.R_drew)); exact HO_8.out) hb); have n2_ := Aside0.mk (Kd.S_below (by (with_reducible repeat (first | apply Kd.S_alloc | apply Kd.S_drewN | apply Kd.S_drew)); exact HO745.out) hb); have n3_ := Aside0.mk (below_step (by repeat (first | (with_reducible first | exact HB.out | apply below_alloc | apply pw_below_drewN | apply below_drew1) | exact HB.out)) hb); clear HO_5; clear HO_8; clear HO745; clear HB; have HO_5 := n0_; have HO_8 := n1_; have HO745 := n2_; have HB := n3_; clear n0_ n1_ n2_ n3_; (try clear hb); (try clear hb2); (try clear hk); (try clear hi))))
           go_ret
           exact ⟨by first | rfl | (simp [errW_none, errW_some] <;> rfl) | (simp [*, errW_none, errW_some] <;> rfl), by repeat (first | (with_reducible first | exact HB.out | apply below_alloc | apply pw_below_drewN | apply below_drew1) | exact HB.out)⟩
          ·replace c68 := Bool.eq_false_iff.mpr c68
           subst c68
           have H1 : (some false) = some r := by rw [if_neg (show ¬ (false = true) by decide)] at H; exact H
           clear H
           have H := H1
           clear H1
           exact absurd H (by rw [HT.out]; simp)
         ·rw [if_neg c66] at H
          have c66b0 : (t743 == 0) = false := beq_eq_false_iff_ne.mpr c66
          have c66b1 : (t743 != 0) = true := bne_iff_ne.mpr c66
          exact absurd H (by rw [HT.out]; simp)
  ·rw [if_neg c6] at H
   have c6b0 : ((t736.length : Int) == (wrap64 (t729 + 1))) = false := beq_eq_false_iff_ne.mpr c6
   have c6b1 : ((t736.length : Int) != (wrap64 (t729 + 1))) = true := bne_iff_ne.mpr c6
   exact absurd H (by rw [HT.out]; simp)
 ·rw [if_neg c5] at H
  have c5b0 : (t737 == 0) = false := beq_eq_false_iff_ne.mpr c5
  have c5b1 : (t737 != 0) = true := bne_iff_ne.mpr c5
  by_cases c74 : t737 = 14
  ·rw [if_pos c74] at H
   have c74b0 : (t737 == 14) = true := beq_iff_eq.mpr c74
   have c74b1 : (t737 != 14) = false := bne_eq_false_iff_eq.mpr c74
   clear c74
   by_cases c75 : (t736.length : Int) = 0
   ·rw [if_pos c75] at H
    have c75b0 : ((t736.length : Int) == 0) = true := beq_iff_eq.mpr c75
    have c75b1 : ((t736.length : Int) != 0) = false := bne_eq_false_iff_eq.mpr c75
    clear c75
    replace H := Option.bind_eq_some_iff.mp H
    obtain ⟨t740, A760, H⟩ := H
    replace H : (some t740) = some r := H
    have A76 := Aside0.mk A760
    clear A760
    obtain rfl := Option.some.inj H
    go_enter Try.func8, Try.ntmps8
    go_wp2_with (first | (go_at_call 9; (with_reducible refine (r14_Made.calls k _ _ l0 t729 t730 _ ?side1 ?side2 A2.out).mono ?_); (case side1 => repeat (first | exact HR0.out | (with_reducible refine Kd.C_alloc ?_ _) | (with_reducible refine Kd.C_drewN ?_ _) | (with_reducible refine Kd.C_drew ?_))); (case side2 => exact HC0.out); rintro e w77 ⟨v731, rfl, ho0, hb⟩; have n0_ := Aside0.mk (Kd.R_lower ho0 (below_size (by repeat (first | (with_reducible first | exact HB.out | apply below_alloc | apply pw_below_drewN | apply below_drew1) | exact HB.out)))); have n1_ := Aside0.mk (below_step (by repeat (first | (with_reducible first | exact HB.out | apply below_alloc | apply pw_below_drewN | apply below_drew1) | exact HB.out)) hb); clear HB; have HO732 := n0_; have HB := n1_; clear n0_ n1_; (try clear hb); (try clear hb2); (try clear hk); (try clear hi); (try clear ho0); obtain ⟨Ao78, co78, eo78⟩ := Kd.R_slice HO732.out; subst eo78) | (go_at_call 13; (with_reducible refine (l14_own.calls k _ _ t730 t733 _ ?side1 ?side2 A3.out).mono ?_); (case side1 => repeat (first | exact (Kd.R_reads' HO732.out).2.2 | (with_reducible refine Kd.C_alloc ?_ _) | (with_reducible refine Kd.C_drewN ?_ _) | (with_reducible refine Kd.C_drew ?_))); (case side2 => exact (Kd.R_reads' HO732.out).2.1); rintro e w79 ⟨v734, rfl, ho0, hb⟩; have n0_ := Aside0.mk (Kd.R_below (by (with_reducible repeat (first | apply Kd.R_alloc | apply Kd.R_drewN | apply Kd.R_drew)); exact HO732.out) hb); have n1_ := Aside0.mk (Kd.R_lower ho0 (below_size (by repeat (first | (with_reducible first | exact HB.out | apply below_alloc | apply pw_below_drewN | apply below_drew1) | exact HB.out)))); have n2_ := Aside0.mk (below_step (by repeat (first | (with_reducible first | exact HB.out | apply below_alloc | apply pw_below_drewN | apply below_drew1) | exact HB.out)) hb); clear HO732; clear HB; have HO732 := n0_; have HO735 := n1_; have HB := n2_; clear n0_ n1_ n2_; (try clear hb); (try clear hb2); (try clear hk); (try clear hi); (try clear ho0); obtain ⟨Ao80, co80, eo80⟩ := Kd.R_slice HO735.out; subst eo80) | (go_at_call 12; (with_reducible refine (bounds_Close.calls k t729 _ _ t733 t736 t737 _ ?side1 ?side2 A4.out).mono ?_); (case side1 => repeat (first | exact (Kd.R_reads' HO735.out).2.2 | (with_reducible refine Kd.C_alloc ?_ _) | (with_reducible refine Kd.C_drewN ?_ _) | (with_reducible refine Kd.C_drew ?_))); (case side2 => exact (Kd.R_reads' HO735.out).2.1); rintro e w81 ⟨v738, rfl, ho0, hb⟩; have n0_ := Aside0.mk (Kd.R_below (by (with_reducible repeat (first | apply Kd.R_alloc | apply Kd.R_drewN | apply Kd.R_drew)); exact HO732.out) hb); have n1_ := Aside0.mk (Kd.R_below (by (with_reducible repeat (first | apply Kd.R_alloc | apply Kd.R_drewN | apply Kd.R_drew)); exact HO735.out) hb); have n2_ := Aside0.mk (Kd.S_lower ho0 (below_size (by repeat (first | (with_reducible first | exact HB.out | apply below_alloc | apply pw_below_drewN | apply below_drew1) | exact HB.out)))); have n3_ := Aside0.mk (below_step (by repeat (first | (with_reducible first | exact HB.out | apply below_alloc | apply pw_below_drewN | apply below_drew1) | exact HB.out)) hb); clear HO732; clear HO735; clear HB; have HO732 := n0_; have HO735 := n1_; have HO739 := n2_; have HB := n3_; clear n0_ n1_ n2_ n3_; (try clear hb); (try clear hb2); (try clear hk); (try clear hi); (try clear ho0); obtain ⟨Ao82, co82, eo82⟩ := Kd.S_slice HO739.out; subst eo82) | (go_at_call 19; (with_reducible refine (l14_lives.calls k  t740 _ A76.out).mono ?_); rintro e w83 ⟨rfl, hb⟩; have n0_ := Aside0.mk (Kd.R_below (by (with_reducible repeat (first | apply Kd.R_alloc | apply Kd.R_drewN | apply Kd.R_drew)); exact HO732.out) hb); have n1_ := Aside0.mk (Kd.R_below (by (with_reducible repeat (first | apply Kd.R_alloc | apply Kd.R_drewN | apply Kd.R_drew)); exact HO735.out) hb); have n2_ := Aside0.mk (Kd.S_below (by (with_reducible repeat (first | apply Kd.S_alloc | apply Kd.S_drewN | apply Kd.S_drew)); exact HO739.out) hb); have n3_ := Aside0.mk (below_step (by repeat (first | (with_reducible first | exact HB.out | apply below_alloc | apply pw_below_drewN | apply below_drew1) | exact HB.out)) hb); clear HO732; clear HO735; clear HO739; clear HB; have HO732 := n0_; have HO735 := n1_; have HO739 := n2_; have HB := n3_; clear n0_ n1_ n2_ n3_; (try clear hb); (try clear hb2); (try clear hk); (try clear hi)))
    repeat (go_quiet (first | (go_at_call 9; (with_reducible refine (r14_Made.calls k _ _ l0 t729 t730 _ ?side1 ?side2 A2.out).mono ?_); (case side1 => repeat (first | exact HR0.out | (with_reducible refine Kd.C_alloc ?_ _) | (with_reducible refine Kd.C_drewN ?_ _) | (with_reducible refine Kd.C_drew ?_))); (case side2 => exact HC0.out); rintro e w77 ⟨v731, rfl, ho0, hb⟩; have n0_ := Aside0.mk (Kd.R_lower ho0 (below_size (by repeat (first | (with_reducible first | exact HB.out | apply below_alloc | apply pw_below_drewN | apply below_drew1) | exact HB.out)))); have n1_ := Aside0.mk (below_step (by repeat (first | (with_reducible first | exact HB.out | apply below_alloc | apply pw_below_drewN | apply below_drew1) | exact HB.out)) hb); clear HB; have HO732 := n0_; have HB := n1_; clear n0_ n1_; (try clear hb); (try clear hb2); (try clear hk); (try clear hi); (try clear ho0); obtain ⟨Ao78, co78, eo78⟩ := Kd.R_slice HO732.out; subst eo78) | (go_at_call 13; (with_reducible refine (l14_own.calls k _ _ t730 t733 _ ?side1 ?side2 A3.out).mono ?_); (case side1 => repeat (first | exact (Kd.R_reads' HO732.out).2.2 | (with_reducible refine Kd.C_alloc ?_ _) | (with_reducible refine Kd.C_drewN ?_ _) | (with_reducible refine Kd.C_drew ?_))); (case side2 => exact (Kd.R_reads' HO732.out).2.1); rintro e w79 ⟨v734, rfl, ho0, hb⟩; have n0_ := Aside0.mk (Kd.R_below (by (with_reducible repeat (first | apply Kd.R_alloc | apply Kd.R_drewN | apply Kd.R_drew)); exact HO732.out) hb); have n1_ := Aside0.mk (Kd.R_lower ho0 (below_size (by repeat (first | (with_reducible first | exact HB.out | apply below_alloc | apply pw_below_drewN | apply below_drew1) | exact HB.out)))); have n2_ := Aside0.mk (below_step (by repeat (first | (with_reducible first | exact HB.out | apply below_alloc | apply pw_below_drewN | apply below_drew1) | exact HB.out)) hb); clear HO732; clear HB; have HO732 := n0_; have HO735 := n1_; have HB := n2_; clear n0_ n1_ n2_; (try clear hb); (try clear hb2); (try clear hk); (try clear hi); (try clear ho0); obtain ⟨Ao80, co80, eo80⟩ := Kd.R_slice HO735.out; subst eo80) | (go_at_call 12; (with_reducible refine (bounds_Close.calls k t729 _ _ t733 t736 t737 _ ?side1 ?side2 A4.out).mono ?_); (case side1 => repeat (first | exact (Kd.R_reads' HO735.out).2.2 | (with_reducible refine Kd.C_alloc ?_ _) | (with_reducible refine Kd.C_drewN ?_ _) | (with_reducible refine Kd.C_drew ?_))); (case side2 => exact (Kd.R_reads' HO735.out).2.1); rintro e w81 ⟨v738, rfl, ho0, hb⟩; have n0_ := Aside0.mk (Kd.R_below (by (with_reducible repeat (first | apply Kd.R_alloc | apply Kd.R_drewN | apply Kd.R_drew)); exact HO732.out) hb); have n1_ := Aside0.mk (Kd.R_below (by (with_reducible repeat (first | apply Kd.R_alloc | apply Kd.R_drewN | apply Kd.R_drew)); exact HO735.out) hb); have n2_ := Aside0.mk (Kd.S_lower ho0 (below_size (by repeat (first | (with_reducible first | exact HB.out | apply below_alloc | apply pw_below_drewN | apply below_drew1) | exact HB.out)))); have n3_ := Aside0.mk (below_step (by repeat (first | (with_reducible first | exact HB.out | apply below_alloc | apply pw_below_drewN | apply below_drew1) | exact HB.out)) hb); clear HO732; clear HO735; clear HB; have HO732 := n0_; have HO735 := n1_; have HO739 := n2_; have HB := n3_; clear n0_ n1_ n2_ n3_; (try clear hb); (try clear hb2); (try clear hk); (try clear hi); (try clear ho0); obtain ⟨Ao82, co82, eo82⟩ := Kd.S_slice HO739.out; subst eo82) | (go_at_call 19; (with_reducible refine (l14_lives.calls k  t740 _ A76.out).mono ?_); rintro e w83 ⟨rfl, hb⟩; have n0_ := Aside0.mk (Kd.R_below (by (with_reducible repeat (first | apply Kd.R_alloc | apply Kd.R_drewN | apply Kd.R_drew)); exact HO732.out) hb); have n1_ := Aside0.mk (Kd.R_below (by (with_reducible repeat (first | apply Kd.R_alloc | apply Kd.R_drewN | apply Kd.R_drew)); exact HO735.out) hb); have n2_ := Aside0.mk (Kd.S_below (by (with_reducible repeat (first | apply Kd.S_alloc | apply Kd.S_drewN | apply Kd.S_drew)); exact HO739.out) hb); have n3_ := Aside0.mk (below_step (by repeat (first | (with_reducible first | exact HB.out | apply below_alloc | apply pw_below_drewN | apply below_drew1) | exact HB.out)) hb); clear HO732; clear HO735; clear HO739; clear HB; have HO732 := n0_; have HO735 := n1_; have HO739 := n2_; have HB := n3_; clear n0_ n1_ n2_ n3_; (try clear hb); (try clear hb2); (try clear hk); (try clear hi))); try go_wp2_with (first | (go_at_call 9; (with_reducible refine (r14_Made.calls k _ _ l0 t729 t730 _ ?side1 ?side2 A2.out).mono ?_); (case side1 => repeat (first | exact HR0.out | (with_reducible refine Kd.C_alloc ?_ _) | (with_reducible refine Kd.C_drewN ?_ _) | (with_reducible refine Kd.C_drew ?_))); (case side2 => exact HC0.out); rintro e w77 ⟨v731, rfl, ho0, hb⟩; have n0_ := Aside0.mk (Kd.R_lower ho0 (below_size (by repeat (first | (with_reducible first | exact HB.out | apply below_alloc | apply pw_below_drewN | apply below_drew1) | exact HB.out)))); have n1_ := Aside0.mk (below_step (by repeat (first | (with_reducible first | exact HB.out | apply below_alloc | apply pw_below_drewN | apply below_drew1) | exact HB.out)) hb); clear HB; have HO732 := n0_; have HB := n1_; clear n0_ n1_; (try clear hb); (try clear hb2); (try clear hk); (try clear hi); (try clear ho0); obtain ⟨Ao78, co78, eo78⟩ := Kd.R_slice HO732.out; subst eo78) | (go_at_call 13; (with_reducible refine (l14_own.calls k _ _ t730 t733 _ ?side1 ?side2 A3.out).mono ?_); (case side1 => repeat (first | exact (Kd.R_reads' HO732.out).2.2 | (with_reducible refine Kd.C_alloc ?_ _) | (with_reducible refine Kd.C_drewN ?_ _) | (with_reducible refine Kd.C_drew ?_))); (case side2 => exact (Kd.R_reads' HO732.out).2.1); rintro e w79 ⟨v734, rfl, ho0, hb⟩; have n0_ := Aside0.mk (Kd.R_below (by (with_reducible repeat (first | apply Kd.R_alloc | apply Kd.R_drewN | apply Kd.R_drew)); exact HO732.out) hb); have n1_ := Aside0.mk (Kd.R_lower ho0 (below_size (by repeat (first | (with_reducible first | exact HB.out | apply below_alloc | apply pw_below_drewN | apply below_drew1) | exact HB.out)))); have n2_ := Aside0.mk (below_step (by repeat (first | (with_reducible first | exact HB.out | apply below_alloc | apply pw_below_drewN | apply below_drew1) | exact HB.out)) hb); clear HO732; clear HB; have HO732 := n0_; have HO735 := n1_; have HB := n2_; clear n0_ n1_ n2_; (try clear hb); (try clear hb2); (try clear hk); (try clear hi); (try clear ho0); obtain ⟨Ao80, co80, eo80⟩ := Kd.R_slice HO735.out; subst eo80) | (go_at_call 12; (with_reducible refine (bounds_Close.calls k t729 _ _ t733 t736 t737 _ ?side1 ?side2 A4.out).mono ?_); (case side1 => repeat (first | exact (Kd.R_reads' HO735.out).2.2 | (with_reducible refine Kd.C_alloc ?_ _) | (with_reducible refine Kd.C_drewN ?_ _) | (with_reducible refine Kd.C_drew ?_))); (case side2 => exact (Kd.R_reads' HO735.out).2.1); rintro e w81 ⟨v738, rfl, ho0, hb⟩; have n0_ := Aside0.mk (Kd.R_below (by (with_reducible repeat (first | apply Kd.R_alloc | apply Kd.R_drewN | apply Kd.R_drew)); exact HO732.out) hb); have n1_ := Aside0.mk (Kd.R_below (by (with_reducible repeat (first | apply Kd.R_alloc | apply Kd.R_drewN | apply Kd.R_drew)); exact HO735.out) hb); have n2_ := Aside0.mk (Kd.S_lower ho0 (below_size (by repeat (first | (with_reducible first | exact HB.out | apply below_alloc | apply pw_below_drewN | apply below_drew1) | exact HB.out)))); have n3_ := Aside0.mk (below_step (by repeat (first | (with_reducible first | exact HB.out | apply below_alloc | apply pw_below_drewN | apply below_drew1) | exact HB.out)) hb); clear HO732; clear HO735; clear HB; have HO732 := n0_; have HO735 := n1_; have HO739 := n2_; have HB := n3_; clear n0_ n1_ n2_ n3_; (try clear hb); (try clear hb2); (try clear hk); (try clear hi); (try clear ho0); obtain ⟨Ao82, co82, eo82⟩ := Kd.S_slice HO739.out; subst eo82) | (go_at_call 19; (with_reducible refine (l14_lives.calls k  t740 _ A76.out).mono ?_); rintro e w83 ⟨rfl, hb⟩; have n0_ := Aside0.mk (Kd.R_below (by (with_reducible repeat (first | apply Kd.R_alloc | apply Kd.R_drewN | apply Kd.R_drew)); exact HO732.out) hb); have n1_ := Aside0.mk (Kd.R_below (by (with_reducible repeat (first | apply Kd.R_alloc | apply Kd.R_drewN | apply Kd.R_drew)); exact HO735.out) hb); have n2_ := Aside0.mk (Kd.S_below (by (with_reducible repeat (first | apply Kd.S_alloc | apply Kd.S_drewN | apply Kd.S_drew)); exact HO739.out) hb); have n3_ := Aside0.mk (below_step (by repeat (first | (with_reducible first | exact HB.out | apply below_alloc | apply pw_below_drewN | apply below_drew1) | exact HB.out)) hb); clear HO732; clear HO735; clear HO739; clear HB; have HO732 := n0_; have HO735 := n1_; have HO739 := n2_; have HB := n3_; clear n0_ n1_ n2_ n3_; (try clear hb); (try clear hb2); (try clear hk); (try clear hi))))
    go_ret
    exact ⟨by first | rfl | (simp [errW_none, errW_some] <;> rfl) | (simp [*, errW_none, errW_some] <;> rfl), by repeat (first | (with_reducible first | exact HB.out | apply below_alloc | apply pw_below_drewN | apply below_drew1) | exact HB.out)⟩
   ·rw [if_neg c75] at H
    have c75b0 : ((t736.length : Int) == 0) = false := beq_eq_false_iff_ne.mpr c75
    have c75b1 : ((t736.length : Int) != 0) = true := bne_iff_ne.mpr c75
    have c75b2 : ¬ (t736 = []) := fun h_ => c75 (by rw [h_]; rfl)
    exact absurd H (by rw [HT.out]; simp)
  ·rw [if_neg c74] at H
   have c74b0 : (t737 == 14) = false := beq_eq_false_iff_ne.mpr c74
   have c74b1 : (t737 != 14) = true := bne_iff_ne.mpr c74
   exact absurd H (by rw [HT.out]; simp)

/-- THE ONE PURE STATEMENT of l14_BoundsClosed: yours. -/
def l14_BoundsClosed.Pure : Prop := ∀ (l0 : List Int), l0.length ≤ maxLen → l0.length * 8 ≤ 140737488351232 → (∀ x ∈ l0, (Lit.int .i64 x).wf = true) → ∃ k, l14_BoundsClosed.f k l0 = some true
theorem l14_BoundsClosed.walk (P : l14_BoundsClosed.Pure) (a0 : Option Addr) (len0 cap0 : Nat) (z0 : List Int) (w : World) (w0 : (a0 = none ∧ len0 = 0 ∧ cap0 = 0 ∧ z0 = []) ∨ ∃ x, a0 = some x ∧ len0 ≤ cap0 ∧ cap0 ≤ maxLen ∧ z0.length = cap0 ∧ (∀ i, i < z0.length → w.cell? (x.add i) = some (.int .i64 (z0.getD i 0))) ∧ ∀ n ∈ z0, (Lit.int .i64 n).wf = true) (y0 : len0 * 8 ≤ 140737488351232) :
  Calls Try.prog 8 #[.slice a0 len0 cap0] w fun e w' => e = .returned (.bool true) ∧ Below w.heap.size w w' := by
 obtain ⟨l0, rfl, hr0, hm0, hw0, hc0⟩ := ReadsInt.ofRowC w0
 obtain ⟨k, h⟩ := P l0 hm0 y0 hw0
 refine (l14_BoundsClosed.calls k _ _ l0 true w (Kd.C_of_reads (d := (0 : Int)) (h1 := fun _ => rfl) hr0) hc0 h rfl).mono ?_
 rintro e w' ⟨rfl, hd⟩
 exact ⟨rfl, hd⟩

end Go.Proofs.Ytcnkjcbjlopkmaa.Q
