-- Written out of the translation by a program of this session (wip/tools/myprint.py, over the kit's print). Lean checks it.
import Derived.Test.YtcnkjcbjlopkmaaHid
import Derived.Test.YtcnkjcbjlopkmaaQ0
namespace Go.Proofs.Ytcnkjcbjlopkmaa.Q
open Go.RowKit Go.Proofs.YtcnkjcbjlopkmaaW.PrintWords Go.Proofs.YtcnkjcbjlopkmaaW.PrintLast Go.Proofs.YtcnkjcbjlopkmaaW.PrintMore
attribute [local go_sem] max2_int min2_int max_two min_two max_three min_three max_four min_four   -- for this text's walks alone
set_option linter.unusedVariables false
set_option linter.unusedSimpArgs false

/-! ### r01_At: function 27 -/
def r01_At.f (l0 : List Int) (a1 : Int) (a2 : Int) : Option (Int) := if a1 < 0 then (some 0) else (if a1 ≥ (l0.length : Int) then (some 0) else (if 0 ≤ a1 then (if a1 < (l0.length : Int) then ((r01_Around.f (rd l0 a1) a2).bind fun t102 => (some t102)) else (none)) else (none)))
set_option maxHeartbeats 8000000 in
set_option maxRecDepth 100000 in
theorem r01_At.calls (A0 : Option Addr) (c0 : Nat) (l0 : List Int) (a1 : Int) (a2 : Int) (r : Int) (w : World) (hr0 : Kd.C (Kd.int .i64) w A0 l0.length l0) (hc0 : l0.length ≤ c0) (h : r01_At.f l0 a1 a2 = some r) :
  Calls Try.prog 27 #[.slice A0 l0.length c0, .int .i64 a1, .int .i64 a2] w fun e w' => e = .returned (.int .i64 r) ∧ Drawn0 w w' := by
 have HR0 := Aside0.mk hr0
 have HC0 := Aside0.mk hc0
 clear hr0 hc0
 have H : (if a1 < 0 then (some 0) else (if a1 ≥ (l0.length : Int) then (some 0) else (if 0 ≤ a1 then (if a1 < (l0.length : Int) then ((r01_Around.f (rd l0 a1) a2).bind fun t102 => (some t102)) else (none)) else (none)))) = some r := h
 clear h
 by_cases c4 : a1 < 0
 ·rw [if_pos c4] at H
  have c4b0 : decide (a1 < 0) = true := decide_eq_true c4
  clear c4
  obtain rfl := Option.some.inj H
  go_enter Try.func27, Try.ntmps27
  go_wp2
  go_ret
  exact ⟨by first | rfl | (simp; done) | (simp [*]; done), by repeat (first | exact Drawn0.refl _ | apply Drawn0.step)⟩
 ·rw [if_neg c4] at H
  have c4b0 : decide (a1 < 0) = false := decide_eq_false c4
  clear c4
  by_cases c5 : a1 ≥ (l0.length : Int)
  ·rw [if_pos c5] at H
   have c5b0 : decide ((l0.length : Int) ≤ a1) = true := decide_eq_true c5
   clear c5
   obtain rfl := Option.some.inj H
   go_enter Try.func27, Try.ntmps27
   go_wp2
   go_ret
   exact ⟨by first | rfl | (simp; done) | (simp [*]; done), by repeat (first | exact Drawn0.refl _ | apply Drawn0.step)⟩
  ·rw [if_neg c5] at H
   have c5b0 : decide ((l0.length : Int) ≤ a1) = false := decide_eq_false c5
   clear c5
   by_cases c6 : 0 ≤ a1
   ·rw [if_pos c6] at H
    have c6b0 : decide (0 ≤ a1) = true := decide_eq_true c6
    clear c6
    by_cases c7 : a1 < (l0.length : Int)
    ·rw [if_pos c7] at H
     have c7b0 : decide (a1 < (l0.length : Int)) = true := decide_eq_true c7
     clear c7
     replace H := Option.bind_eq_some_iff.mp H
     obtain ⟨t102, A80, H⟩ := H
     replace H : (some t102) = some r := H
     have A8 := Aside0.mk A80
     clear A80
     obtain rfl := Option.some.inj H
     have p101 : 0 ≤ (a1 : Int) := of_decide_eq_true (by assumption)
     have q101 : a1 < (l0.length : Int) := of_decide_eq_true (by assumption)
     obtain ⟨ad101, e101, hx101_0⟩ := Kd.at_int HR0.out a1 p101 q101
     cases e101
     replace p101 := eq_true p101
     replace q101 := eq_true q101
     go_enter Try.func27, Try.ntmps27
     go_wp2_with (first | ((with_reducible refine gate_callee (f := 11) rfl ?_); refine goesL_ (some 20) rfl rfl Try.func11 (by kernel_rfl) rfl #[.int .i64 (rd l0 a1), .int .i64 a2] rfl (by (try simp only [List.map_toArray, List.map_cons, List.map_nil]); first | done | rfl | (simp only [List.length_drop, List.length_take]; rfl)) ?_; (with_reducible refine (r01_Around.calls (rd l0 a1) a2 t102 _ A8.out).mono ?_); rintro e w' ⟨rfl, ⟨nd, rfl⟩⟩; refine ⟨_, rfl, ?_⟩))
     go_ret
     exact ⟨by first | rfl | (simp; done) | (simp [*]; done), by repeat (first | exact Drawn0.refl _ | apply Drawn0.step)⟩
    ·rw [if_neg c7] at H
     exact absurd H (by simp)
   ·rw [if_neg c6] at H
    exact absurd H (by simp)

/-! ### r14_Made: function 9 -/
mutual
def r14_Made.l0 : Nat → List Int → Int → List (S54) → Int → Option (Int × (List (S54)))
 | 0, _, _, _, _ => none
 | k + 1, x0, x4, x5, x6 => if x6 < x4 then ((r01_At.f x0 (wrap64 (1 + x6)) 12).bind fun t104 => ((r01_At.f x0 (wrap64 (7 + x6)) 9).bind fun t105 => (if t105 > 0 then (if x5.length < 5864062014805 then (r14_Made.j1 k x0 x4 (x5 ++ [(⟨(-1), x6, wrap64 (-(wrap64 (t104 - 4)))⟩ : S54)]) x6 (wrap64 (t104 - 4))) else (none)) else (r14_Made.j1 k x0 x4 x5 x6 (wrap64 (t104 - 4)))))) else (r14_Made.l1 k x0 x4 x5 25)
def r14_Made.j1 : Nat → List Int → Int → List (S54) → Int → Int → Option (Int × (List (S54)))
 | 0, _, _, _, _, _ => none
 | k + 1, x0, x4, x5, x6, x7 => (r01_At.f x0 (wrap64 (13 + x6)) 9).bind fun t109 => (if t109 > 0 then ((r01_At.f x0 (wrap64 (19 + x6)) 9).bind fun t110 => (if x5.length < 5864062014805 then (r14_Made.l0 k x0 x4 (x5 ++ [(⟨x6, (-1), wrap64 (x7 + t110)⟩ : S54)]) (wrap64 (x6 + 1))) else (none))) else (r14_Made.l0 k x0 x4 x5 (wrap64 (x6 + 1))))
def r14_Made.l1 : Nat → List Int → Int → List (S54) → Int → Option (Int × (List (S54)))
 | 0, _, _, _, _ => none
 | k + 1, x0, x4, x5, x8 => if x8 < (x0.length : Int) then (r14_Made.j3 k x0 x4 x5 x8 (decide (x8 < 32))) else (r14_Made.j3 k x0 x4 x5 x8 false)
def r14_Made.j3 : Nat → List Int → Int → List (S54) → Int → Bool → Option (Int × (List (S54)))
 | 0, _, _, _, _, _ => none
 | k + 1, x0, x4, x5, x8, x60 => if x60 = true then ((r01_At.f x0 x8 1048576).bind fun t114 => (if (wrap64 (x4 + 1)) = 0 then (none) else (if (wrap64 ((Int.tmod t114 (wrap64 (x4 + 1))) - 1)) = (wrap64 ((Int.tmod (wrap64 (Int.tdiv t114 8)) (wrap64 (x4 + 1))) - 1)) then (r14_Made.l1 k x0 x4 x5 (wrap64 (x8 + 1))) else (if x5.length < 5864062014805 then (r14_Made.l1 k x0 x4 (x5 ++ [(⟨wrap64 ((Int.tmod t114 (wrap64 (x4 + 1))) - 1), wrap64 ((Int.tmod (wrap64 (Int.tdiv t114 8)) (wrap64 (x4 + 1))) - 1), wrap64 ((Int.tmod (wrap64 (Int.tdiv t114 64)) 11) - 3)⟩ : S54)]) (wrap64 (x8 + 1))) else (none))))) else (some (x4, x5))
end
def r14_Made.f (k : Nat) (l0 : List Int) : Option (Int × (List (S54))) := (r01_At.f l0 0 5).bind fun t103 => (r14_Made.l0 k l0 (wrap64 (1 + t103)) ([] : List (S54)) 0)
theorem r14_Made.mono_l : ∀ k, (∀ y0 y1 y2 y3, LeO (r14_Made.l0 k y0 y1 y2 y3) (r14_Made.l0 (k + 1) y0 y1 y2 y3)) ∧ (∀ y0 y1 y2 y3 y4, LeO (r14_Made.j1 k y0 y1 y2 y3 y4) (r14_Made.j1 (k + 1) y0 y1 y2 y3 y4)) ∧ (∀ y0 y1 y2 y3, LeO (r14_Made.l1 k y0 y1 y2 y3) (r14_Made.l1 (k + 1) y0 y1 y2 y3)) ∧ (∀ y0 y1 y2 y3 y4, LeO (r14_Made.j3 k y0 y1 y2 y3 y4) (r14_Made.j3 (k + 1) y0 y1 y2 y3 y4))
 | 0 => ⟨fun _ _ _ _ r h => by simp [r14_Made.l0] at h, fun _ _ _ _ _ r h => by simp [r14_Made.j1] at h, fun _ _ _ _ r h => by simp [r14_Made.l1] at h, fun _ _ _ _ _ r h => by simp [r14_Made.j3] at h⟩
 | k + 1 => by
  obtain ⟨ih0, ih1, ih2, ih3⟩ := r14_Made.mono_l k
  refine ⟨?_, ?_, ?_, ?_⟩
  ·intro y0 y1 y2 y3
   unfold r14_Made.l0
   repeat' first
   | (with_reducible exact ih0 _ _ _ _)
   | (with_reducible exact ih1 _ _ _ _ _)
   | (with_reducible exact ih2 _ _ _ _)
   | (with_reducible exact ih3 _ _ _ _ _)
   | (with_reducible exact LeO.refl _)
   | (with_reducible exact LeO.none _)
   | (with_reducible refine LeO.ite ?_ ?_)
   | (with_reducible refine LeO.bind ?_ (fun _ => ?_))
   | exact LeO.none _
   | refine LeO.ite ?_ ?_
   | refine LeO.bind ?_ (fun _ => ?_)
  ·intro y0 y1 y2 y3 y4
   unfold r14_Made.j1
   repeat' first
   | (with_reducible exact ih0 _ _ _ _)
   | (with_reducible exact ih1 _ _ _ _ _)
   | (with_reducible exact ih2 _ _ _ _)
   | (with_reducible exact ih3 _ _ _ _ _)
   | (with_reducible exact LeO.refl _)
   | (with_reducible exact LeO.none _)
   | (with_reducible refine LeO.ite ?_ ?_)
   | (with_reducible refine LeO.bind ?_ (fun _ => ?_))
   | exact LeO.none _
   | refine LeO.ite ?_ ?_
   | refine LeO.bind ?_ (fun _ => ?_)
  ·intro y0 y1 y2 y3
   unfold r14_Made.l1
   repeat' first
   | (with_reducible exact ih0 _ _ _ _)
   | (with_reducible exact ih1 _ _ _ _ _)
   | (with_reducible exact ih2 _ _ _ _)
   | (with_reducible exact ih3 _ _ _ _ _)
   | (with_reducible exact LeO.refl _)
   | (with_reducible exact LeO.none _)
   | (with_reducible refine LeO.ite ?_ ?_)
   | (with_reducible refine LeO.bind ?_ (fun _ => ?_))
   | exact LeO.none _
   | refine LeO.ite ?_ ?_
   | refine LeO.bind ?_ (fun _ => ?_)
  ·intro y0 y1 y2 y3 y4
   unfold r14_Made.j3
   repeat' first
   | (with_reducible exact ih0 _ _ _ _)
   | (with_reducible exact ih1 _ _ _ _ _)
   | (with_reducible exact ih2 _ _ _ _)
   | (with_reducible exact ih3 _ _ _ _ _)
   | (with_reducible exact LeO.refl _)
   | (with_reducible exact LeO.none _)
   | (with_reducible refine LeO.ite ?_ ?_)
   | (with_reducible refine LeO.bind ?_ (fun _ => ?_))
   | exact LeO.none _
   | refine LeO.ite ?_ ?_
   | refine LeO.bind ?_ (fun _ => ?_)
theorem r14_Made.mono : ∀ a0 k, LeO (r14_Made.f k a0) (r14_Made.f (k + 1) a0) := by
 intro a0 k
 obtain ⟨ih0, ih1, ih2, ih3⟩ := r14_Made.mono_l k
 unfold r14_Made.f
 repeat' first
   | (with_reducible exact ih0 _ _ _ _)
   | (with_reducible exact ih1 _ _ _ _ _)
   | (with_reducible exact ih2 _ _ _ _)
   | (with_reducible exact ih3 _ _ _ _ _)
   | (with_reducible exact LeO.refl _)
   | (with_reducible exact LeO.none _)
   | (with_reducible refine LeO.ite ?_ ?_)
   | (with_reducible refine LeO.bind ?_ (fun _ => ?_))
   | exact LeO.none _
   | refine LeO.ite ?_ ?_
   | refine LeO.bind ?_ (fun _ => ?_)
set_option maxHeartbeats 8000000 in
set_option maxRecDepth 100000 in
theorem r14_Made.calls (k : Nat) (A0 : Option Addr) (c0 : Nat) (l0 : List Int) (r1 : Int) (r2 : List (S54)) (w : World) (hr0 : Kd.C (Kd.int .i64) w A0 l0.length l0) (hc0 : l0.length ≤ c0) (h : r14_Made.f k l0 = some (r1, r2)) :
  Calls Try.prog 9 #[.slice A0 l0.length c0] w fun e w' => ∃ v1_ : Value, e = .returned (.tuple #[.int .i64 r1, v1_]) ∧ Kd.R k54 54 w' w.heap.size (fun _ => True) v1_ r2 ∧ Below w.heap.size w w' := by
 have hu54 := Try.underlying54
 have HR0 := Aside0.mk hr0
 have HC0 := Aside0.mk hc0
 clear hr0 hc0
 have HB := Aside0.mk (Below.refl w.heap.size w)
 have H : ((r01_At.f l0 0 5).bind fun t103 => (r14_Made.l0 k l0 (wrap64 (1 + t103)) ([] : List (S54)) 0)) = some (r1, r2) := h
 clear h
 replace H := Option.bind_eq_some_iff.mp H
 obtain ⟨t103, A20, H⟩ := H
 replace H : (r14_Made.l0 k l0 (wrap64 (1 + t103)) ([] : List (S54)) 0) = some (r1, r2) := H
 have A2 := Aside0.mk A20
 clear A20
 have H' := Aside0.mk H
 clear H
 go_enter Try.func9, Try.ntmps9
 go_wp2_with (first | ((with_reducible refine gate_callee (f := 27) rfl ?_); refine goesL_ (some 13) rfl rfl Try.func27 (by kernel_rfl) rfl #[.slice A0 l0.length c0, .int .i64 0, .int .i64 5] rfl (by (try simp only [List.map_toArray, List.map_cons, List.map_nil]); first | done | rfl | (simp only [List.length_drop, List.length_take]; rfl)) ?_; (with_reducible refine (r01_At.calls _ _ l0 0 5 t103 _ ?side1 ?side2 A2.out).mono ?_); (case side1 => repeat (first | exact HR0.out | (with_reducible refine Kd.C_alloc ?_ _) | (with_reducible refine Kd.C_drewN ?_ _) | (with_reducible refine Kd.C_drew ?_))); (case side2 => exact HC0.out); rintro e w' ⟨rfl, ⟨nd, rfl⟩⟩; refine ⟨_, rfl, ?_⟩))
 go_loopg [5, 6] k (fun kq v5 v6 w' => ∃ (x5_1 : List (S54)) (x6_1 : Int), v6 = .int .i64 x6_1 ∧ Aside0 (r14_Made.l0 kq l0 (wrap64 (1 + t103)) x5_1 x6_1 = some (r1, r2)) ∧ Aside0 (kq ≤ k) ∧ Aside0 (Kd.R k54 54 w' w.heap.size (fun _ => True) v5 x5_1) ∧ Aside0 (Below w.heap.size w w'))
 case atStart => exact ⟨(([] : List (S54))), (0), (by first | rfl | (simp; done) | (simp [*]; done)), H', ⟨Nat.le_refl _⟩, ⟨by first | exact Kd.R_nil _ _ _ _ _ | exact Kd.N_nil _ _ _ _ _ | exact Kd.V_nil _ _ _ _ _ | exact Kd.Q_nil _ _ _ _ _ | exact Kd.S_nil _ _ _ _ _⟩, ⟨bl HB.out⟩⟩
 case round =>
  clear H'
  try clear c2
  try clear p2
  obtain ⟨x5_1, x6_1, rfl, HA, HK1, HO_5, HB⟩ := hrel
  cases gk with
  | zero => exact absurd HA.out (by simp [r14_Made.l0])
  | succ k1 =>
   have H := HA.out
   clear HA
   simp only [r14_Made.l0] at H
   by_cases c3 : x6_1 < (wrap64 (1 + t103))
   ·rw [if_pos c3] at H
    have c3b0 : decide (x6_1 < (wrap64 (1 + t103))) = true := decide_eq_true c3
    clear c3
    replace H := Option.bind_eq_some_iff.mp H
    obtain ⟨t104, A40, H⟩ := H
    replace H : ((r01_At.f l0 (wrap64 (7 + x6_1)) 9).bind fun t105 => (if t105 > 0 then (if x5_1.length < 5864062014805 then (r14_Made.j1 k1 l0 (wrap64 (1 + t103)) (x5_1 ++ [(⟨(-1), x6_1, wrap64 (-(wrap64 (t104 - 4)))⟩ : S54)]) x6_1 (wrap64 (t104 - 4))) else (none)) else (r14_Made.j1 k1 l0 (wrap64 (1 + t103)) x5_1 x6_1 (wrap64 (t104 - 4))))) = some (r1, r2) := H
    have A4 := Aside0.mk A40
    clear A40
    replace H := Option.bind_eq_some_iff.mp H
    obtain ⟨t105, A50, H⟩ := H
    replace H : (if t105 > 0 then (if x5_1.length < 5864062014805 then (r14_Made.j1 k1 l0 (wrap64 (1 + t103)) (x5_1 ++ [(⟨(-1), x6_1, wrap64 (-(wrap64 (t104 - 4)))⟩ : S54)]) x6_1 (wrap64 (t104 - 4))) else (none)) else (r14_Made.j1 k1 l0 (wrap64 (1 + t103)) x5_1 x6_1 (wrap64 (t104 - 4)))) = some (r1, r2) := H
    have A5 := Aside0.mk A50
    clear A50
    have HC6 := Aside0.mk H
    clear H
    go_upto_if 29 with (first | ((with_reducible refine gate_callee (f := 27) rfl ?_); refine goesL_ (some 23) rfl rfl Try.func27 (by kernel_rfl) rfl #[.slice A0 l0.length c0, .int .i64 (wrap64 (1 + x6_1)), .int .i64 12] rfl (by (try simp only [List.map_toArray, List.map_cons, List.map_nil]); first | done | rfl | (simp only [List.length_drop, List.length_take]; rfl)) ?_; (with_reducible refine (r01_At.calls _ _ l0 (wrap64 (1 + x6_1)) 12 t104 _ ?side1 ?side2 A4.out).mono ?_); (case side1 => repeat (first | exact (Kd.C_below HR0.out HB.out) | (with_reducible refine Kd.C_alloc ?_ _) | (with_reducible refine Kd.C_drewN ?_ _) | (with_reducible refine Kd.C_drew ?_))); (case side2 => exact HC0.out); rintro e w' ⟨rfl, ⟨nd, rfl⟩⟩; refine ⟨_, rfl, ?_⟩) | ((with_reducible refine gate_callee (f := 27) rfl ?_); refine goesL_ (some 28) rfl rfl Try.func27 (by kernel_rfl) rfl #[.slice A0 l0.length c0, .int .i64 (wrap64 (7 + x6_1)), .int .i64 9] rfl (by (try simp only [List.map_toArray, List.map_cons, List.map_nil]); first | done | rfl | (simp only [List.length_drop, List.length_take]; rfl)) ?_; (with_reducible refine (r01_At.calls _ _ l0 (wrap64 (7 + x6_1)) 9 t105 _ ?side1 ?side2 A5.out).mono ?_); (case side1 => repeat (first | exact (Kd.C_below HR0.out (by repeat (first | (with_reducible first | exact HB.out | apply below_alloc | apply pw_below_drewN | apply below_drew1) | exact HB.out))) | (with_reducible refine Kd.C_alloc ?_ _) | (with_reducible refine Kd.C_drewN ?_ _) | (with_reducible refine Kd.C_drew ?_))); (case side2 => exact HC0.out); rintro e w' ⟨rfl, ⟨nd, rfl⟩⟩; refine ⟨_, rfl, ?_⟩))
    (try simp only [Act.put, List.setIfInBounds_toArray, List.set_cons_zero, List.set_cons_succ])
    go_cut [5] (fun v5 wc => ∃ (kq : Nat) (x5_5 : List (S54)), Aside0 (r14_Made.j1 kq l0 (wrap64 (1 + t103)) x5_5 x6_1 (wrap64 (t104 - 4)) = some (r1, r2)) ∧ Aside0 (kq ≤ k1) ∧ Aside0 (Kd.R k54 54 wc w.heap.size (fun _ => True) v5 x5_5) ∧ Aside0 (Below w.heap.size w wc))
    case first =>
     have H := HC6.out
     clear HC6
     by_cases c7 : t105 > 0
     ·rw [if_pos c7] at H
      have c7b0 : decide (0 < t105) = true := decide_eq_true c7
      clear c7
      (first | rw [c7b0] | (simp only [i64_w, i32_w]; rw [c7b0]) | skip)
      by_cases c8 : x5_1.length < 5864062014805
      ·rw [if_pos c8] at H
       have LMc8 := Aside0.mk c8
       clear c8
       obtain ⟨y106, hy106⟩ : ∃ y_ : List (S54), y_ = (x5_1 ++ [(⟨(-1), x6_1, wrap64 (-(wrap64 (t104 - 4)))⟩ : S54)]) := ⟨_, rfl⟩
       replace H : (r14_Made.j1 k1 l0 (wrap64 (1 + t103)) y106 x6_1 (wrap64 (t104 - 4))) = some (r1, r2) := by first | (rw [hy106]; with_reducible exact H) | (have H2_ := (Option.bind_some _ _).symm.trans H; rw [hy106]; with_reducible exact H2_) | (have H2_ := (Option.bind_some _ _).symm.trans H; with_reducible exact H2_) | with_reducible exact H | (rw [hy106]; exact H) | exact H
       have Ny106 := Aside0.mk hy106
       clear hy106
       have H' := Aside0.mk H
       clear H
       go_wp2_with (first | ((with_reducible refine gate_builtin (b := .append) (xs := #[.tmp 30, .tmp 35]) rfl ?_); at_builtin; refine Kd.R_append k54 (w0 := w) w.heap.size rfl (.tmp 30) (.tmp 35) 23 54 (.agg #[(.int .i64 0), (.int .i64 0), (.int .i64 0)]) 24 rfl Try.underlying23 info54 rfl (by decide) (by omega) u5 x5_1 (⟨(-1), x6_1, wrap64 (-(wrap64 (t104 - 4)))⟩ : S54) [.int .i64 (-1), .int .i64 x6_1, .int .i64 (wrap64 (-(wrap64 (t104 - 4))))] (fun _ => True) (fun _ => False) rfl rfl ?aP (fun _ hk => hk.elim) ?aF ?aO ?aB ?aS ?aL ?_; (case aP => exact k54_mkM _ _ _ (⟨(-1), x6_1, wrap64 (-(wrap64 (t104 - 4)))⟩ : S54)); (case aB => exact (by repeat (first | (with_reducible first | exact HB.out | apply below_alloc | apply pw_below_drewN | apply below_drew1) | exact HB.out))); (case aF => exact (fun _ _ => trivial)); (case aO => exact (by (with_reducible repeat (first | apply Kd.R_alloc | apply Kd.R_drewN | apply Kd.R_drew)); exact HO_5.out)); (case aS => exact (below_size (by repeat (first | (with_reducible first | exact HB.out | apply below_alloc | apply pw_below_drewN | apply below_drew1) | exact HB.out)))); (case aL => have := LMc8.out; omega); intro v107 w9 ho hb hg hat; rw [← Ny106.out] at ho; have n0_ := Aside0.mk (hb); have n1_ := Aside0.mk (ho); clear HB; clear HO_5; have HB := n0_; have HO108 := n1_; clear n0_ n1_; clear ho hb hg hat))
       go_meet
       case rel => exact ⟨_, (y106), H', ⟨by have := HK1.out; first | omega | exact Nat.le_refl _⟩, ⟨gR (HO108.out)⟩, ⟨bl HB.out⟩⟩
      ·rw [if_neg c8] at H
       exact absurd H (by simp)
     ·rw [if_neg c7] at H
      have c7b0 : decide (0 < t105) = false := decide_eq_false c7
      clear c7
      (first | rw [c7b0] | (simp only [i64_w, i32_w]; rw [c7b0]) | skip)
      have H' := Aside0.mk H
      clear H
      go_wp2
      go_meet
      case rel => exact ⟨_, (x5_1), H', ⟨by have := HK1.out; first | omega | exact Nat.le_refl _⟩, ⟨gR (HO_5.out)⟩, ⟨bl HB.out⟩⟩
    case rest =>
     clear HC6
     try clear c2
     try clear p2
     try clear c3
     try clear c3b0
     try clear p6
     try clear c7
     try clear c7b0
     try clear c8
     try clear c9
     try clear p2
     obtain ⟨kq, x5_5, HA, HJ5, HO_5, HB⟩ := hcut
     cases kq with
     | zero => exact absurd HA.out (by simp [r14_Made.j1])
     | succ kj5 =>
      have H := HA.out
      clear HA
      simp only [r14_Made.j1] at H
      replace H := Option.bind_eq_some_iff.mp H
      obtain ⟨t109, A100, H⟩ := H
      replace H : (if t109 > 0 then ((r01_At.f l0 (wrap64 (19 + x6_1)) 9).bind fun t110 => (if x5_5.length < 5864062014805 then (r14_Made.l0 kj5 l0 (wrap64 (1 + t103)) (x5_5 ++ [(⟨x6_1, (-1), wrap64 ((wrap64 (t104 - 4)) + t110)⟩ : S54)]) (wrap64 (x6_1 + 1))) else (none))) else (r14_Made.l0 kj5 l0 (wrap64 (1 + t103)) x5_5 (wrap64 (x6_1 + 1)))) = some (r1, r2) := H
      have A10 := Aside0.mk A100
      clear A100
      by_cases c11 : t109 > 0
      ·rw [if_pos c11] at H
       have c11b0 : decide (0 < t109) = true := decide_eq_true c11
       clear c11
       replace H := Option.bind_eq_some_iff.mp H
       obtain ⟨t110, A120, H⟩ := H
       replace H : (if x5_5.length < 5864062014805 then (r14_Made.l0 kj5 l0 (wrap64 (1 + t103)) (x5_5 ++ [(⟨x6_1, (-1), wrap64 ((wrap64 (t104 - 4)) + t110)⟩ : S54)]) (wrap64 (x6_1 + 1))) else (none)) = some (r1, r2) := H
       have A12 := Aside0.mk A120
       clear A120
       by_cases c13 : x5_5.length < 5864062014805
       ·rw [if_pos c13] at H
        have LMc13 := Aside0.mk c13
        clear c13
        obtain ⟨y111, hy111⟩ : ∃ y_ : List (S54), y_ = (x5_5 ++ [(⟨x6_1, (-1), wrap64 ((wrap64 (t104 - 4)) + t110)⟩ : S54)]) := ⟨_, rfl⟩
        replace H : (r14_Made.l0 kj5 l0 (wrap64 (1 + t103)) y111 (wrap64 (x6_1 + 1))) = some (r1, r2) := by first | (rw [hy111]; with_reducible exact H) | (have H2_ := (Option.bind_some _ _).symm.trans H; rw [hy111]; with_reducible exact H2_) | (have H2_ := (Option.bind_some _ _).symm.trans H; with_reducible exact H2_) | with_reducible exact H | (rw [hy111]; exact H) | exact H
        have Ny111 := Aside0.mk hy111
        clear hy111
        have H' := Aside0.mk H
        clear H
        go_wp2_with (first | ((with_reducible refine gate_callee (f := 27) rfl ?_); refine goesL_ (some 40) rfl rfl Try.func27 (by kernel_rfl) rfl #[.slice A0 l0.length c0, .int .i64 (wrap64 (13 + x6_1)), .int .i64 9] rfl (by (try simp only [List.map_toArray, List.map_cons, List.map_nil]); first | done | rfl | (simp only [List.length_drop, List.length_take]; rfl)) ?_; (with_reducible refine (r01_At.calls _ _ l0 (wrap64 (13 + x6_1)) 9 t109 _ ?side1 ?side2 A10.out).mono ?_); (case side1 => repeat (first | exact (Kd.C_below HR0.out HB.out) | (with_reducible refine Kd.C_alloc ?_ _) | (with_reducible refine Kd.C_drewN ?_ _) | (with_reducible refine Kd.C_drew ?_))); (case side2 => exact HC0.out); rintro e w' ⟨rfl, ⟨nd, rfl⟩⟩; refine ⟨_, rfl, ?_⟩) | ((with_reducible refine gate_callee (f := 27) rfl ?_); refine goesL_ (some 48) rfl rfl Try.func27 (by kernel_rfl) rfl #[.slice A0 l0.length c0, .int .i64 (wrap64 (19 + x6_1)), .int .i64 9] rfl (by (try simp only [List.map_toArray, List.map_cons, List.map_nil]); first | done | rfl | (simp only [List.length_drop, List.length_take]; rfl)) ?_; (with_reducible refine (r01_At.calls _ _ l0 (wrap64 (19 + x6_1)) 9 t110 _ ?side1 ?side2 A12.out).mono ?_); (case side1 => repeat (first | exact (Kd.C_below HR0.out (by repeat (first | (with_reducible first | exact HB.out | apply below_alloc | apply pw_below_drewN | apply below_drew1) | exact HB.out))) | (with_reducible refine Kd.C_alloc ?_ _) | (with_reducible refine Kd.C_drewN ?_ _) | (with_reducible refine Kd.C_drew ?_))); (case side2 => exact HC0.out); rintro e w' ⟨rfl, ⟨nd, rfl⟩⟩; refine ⟨_, rfl, ?_⟩) | ((with_reducible refine gate_builtin (b := .append) (xs := #[.tmp 42, .tmp 51]) rfl ?_); at_builtin; refine Kd.R_append k54 (w0 := w) w.heap.size rfl (.tmp 42) (.tmp 51) 23 54 (.agg #[(.int .i64 0), (.int .i64 0), (.int .i64 0)]) 24 rfl Try.underlying23 info54 rfl (by decide) (by omega) u5 x5_5 (⟨x6_1, (-1), wrap64 ((wrap64 (t104 - 4)) + t110)⟩ : S54) [.int .i64 x6_1, .int .i64 (-1), .int .i64 (wrap64 ((wrap64 (t104 - 4)) + t110))] (fun _ => True) (fun _ => False) rfl rfl ?aP (fun _ hk => hk.elim) ?aF ?aO ?aB ?aS ?aL ?_; (case aP => exact k54_mkM _ _ _ (⟨x6_1, (-1), wrap64 ((wrap64 (t104 - 4)) + t110)⟩ : S54)); (case aB => exact (by repeat (first | (with_reducible first | exact HB.out | apply below_alloc | apply pw_below_drewN | apply below_drew1) | exact HB.out))); (case aF => exact (fun _ _ => trivial)); (case aO => exact (by (with_reducible repeat (first | apply Kd.R_alloc | apply Kd.R_drewN | apply Kd.R_drew)); exact HO_5.out)); (case aS => exact (below_size (by repeat (first | (with_reducible first | exact HB.out | apply below_alloc | apply pw_below_drewN | apply below_drew1) | exact HB.out)))); (case aL => have := LMc13.out; omega); intro v112 w14 ho hb hg hat; rw [← Ny111.out] at ho; have n0_ := Aside0.mk (hb); have n1_ := Aside0.mk (ho); clear HB; clear HO_5; have HB := n0_; have HO113 := n1_; clear n0_ n1_; clear ho hb hg hat))
        go_roundg kj5
        case measure => have := HK1.out; have := HJ5.out; omega
        case rel => exact ⟨(y111), (wrap64 (x6_1 + 1)), (by first | rfl | (simp; done) | (simp [*]; done)), H', ⟨by have := HK1.out; have := HJ5.out; omega⟩, ⟨gR (HO113.out)⟩, ⟨bl HB.out⟩⟩
       ·rw [if_neg c13] at H
        exact absurd H (by simp)
      ·rw [if_neg c11] at H
       have c11b0 : decide (0 < t109) = false := decide_eq_false c11
       clear c11
       have H' := Aside0.mk H
       clear H
       go_wp2_with (first | ((with_reducible refine gate_callee (f := 27) rfl ?_); refine goesL_ (some 40) rfl rfl Try.func27 (by kernel_rfl) rfl #[.slice A0 l0.length c0, .int .i64 (wrap64 (13 + x6_1)), .int .i64 9] rfl (by (try simp only [List.map_toArray, List.map_cons, List.map_nil]); first | done | rfl | (simp only [List.length_drop, List.length_take]; rfl)) ?_; (with_reducible refine (r01_At.calls _ _ l0 (wrap64 (13 + x6_1)) 9 t109 _ ?side1 ?side2 A10.out).mono ?_); (case side1 => repeat (first | exact (Kd.C_below HR0.out HB.out) | (with_reducible refine Kd.C_alloc ?_ _) | (with_reducible refine Kd.C_drewN ?_ _) | (with_reducible refine Kd.C_drew ?_))); (case side2 => exact HC0.out); rintro e w' ⟨rfl, ⟨nd, rfl⟩⟩; refine ⟨_, rfl, ?_⟩))
       go_roundg kj5
       case measure => have := HK1.out; have := HJ5.out; omega
       case rel => exact ⟨(x5_5), (wrap64 (x6_1 + 1)), (by first | rfl | (simp; done) | (simp [*]; done)), H', ⟨by have := HK1.out; have := HJ5.out; omega⟩, ⟨gR (HO_5.out)⟩, ⟨bl HB.out⟩⟩
   ·rw [if_neg c3] at H
    have c3b0 : decide (x6_1 < (wrap64 (1 + t103))) = false := decide_eq_false c3
    clear c3
    have H' := Aside0.mk H
    clear H
    go_wp2
    go_loopg [5, 8] k1 (fun kq v5 v8 w' => ∃ (x5_2 : List (S54)) (x8_2 : Int), v8 = .int .i64 x8_2 ∧ Aside0 (r14_Made.l1 kq l0 (wrap64 (1 + t103)) x5_2 x8_2 = some (r1, r2)) ∧ Aside0 (kq ≤ k1) ∧ Aside0 (Kd.R k54 54 w' w.heap.size (fun _ => True) v5 x5_2) ∧ Aside0 (Below w.heap.size w w'))
    case atStart => exact ⟨(x5_1), (25), (by first | rfl | (simp; done) | (simp [*]; done)), H', ⟨Nat.le_refl _⟩, ⟨gR (HO_5.out)⟩, ⟨bl HB.out⟩⟩
    case round =>
     clear H'
     try clear c1
     try clear c2
     try clear p2
     try clear c3
     try clear c3b0
     try clear p6
     try clear c7
     try clear c7b0
     try clear c8
     try clear c9
     try clear c11
     try clear c11b0
     try clear c13
     try clear p2
     try clear p6
     obtain ⟨x5_2, x8_2, rfl, HA, HK2, HO_5, HB⟩ := hrel
     cases gk with
     | zero => exact absurd HA.out (by simp [r14_Made.l1])
     | succ k2 =>
      have H := HA.out
      clear HA
      simp only [r14_Made.l1] at H
      have HC15 := Aside0.mk H
      clear H
      go_upto_region 12 with (fail)
      go_cut [60] (fun v60 wc => ∃ (kq : Nat) (x60_14 : Bool), v60 = .bool x60_14 ∧ Aside0 (r14_Made.j3 kq l0 (wrap64 (1 + t103)) x5_2 x8_2 x60_14 = some (r1, r2)) ∧ Aside0 (kq ≤ k2) ∧ Aside0 (Kd.R k54 54 wc w.heap.size (fun _ => True) u5 x5_2) ∧ Aside0 (Below w.heap.size w wc))
      case first =>
       have H := HC15.out
       clear HC15
       by_cases c16 : x8_2 < (l0.length : Int)
       ·rw [if_pos c16] at H
        have c16b0 : decide (x8_2 < (l0.length : Int)) = true := decide_eq_true c16
        clear c16
        (first | rw [c16b0] | (simp only [i64_w, i32_w]; rw [c16b0]) | skip)
        have H' := Aside0.mk H
        clear H
        go_wp2
        go_meet
        case rel => exact ⟨_, (decide (x8_2 < 32)), (by first | rfl | (simp; done) | (simp [*]; done)), H', ⟨by have := HK1.out; have := HK2.out; first | omega | exact Nat.le_refl _⟩, ⟨gR (HO_5.out)⟩, ⟨bl HB.out⟩⟩
       ·rw [if_neg c16] at H
        have c16b0 : decide (x8_2 < (l0.length : Int)) = false := decide_eq_false c16
        clear c16
        (first | rw [c16b0] | (simp only [i64_w, i32_w]; rw [c16b0]) | skip)
        have H' := Aside0.mk H
        clear H
        go_wp2
        go_meet
        case rel => exact ⟨_, (false), (by first | rfl | (simp; done) | (simp [*]; done)), H', ⟨by have := HK1.out; have := HK2.out; first | omega | exact Nat.le_refl _⟩, ⟨gR (HO_5.out)⟩, ⟨bl HB.out⟩⟩
      case rest =>
       clear HC15
       try clear c1
       try clear c2
       try clear p2
       try clear c3
       try clear c3b0
       try clear p6
       try clear c7
       try clear c7b0
       try clear c8
       try clear c9
       try clear c11
       try clear c11b0
       try clear c13
       try clear c16
       try clear c16b0
       try clear p2
       try clear p6
       obtain ⟨kq, x60_14, rfl, HA, HJ14, HO_5, HB⟩ := hcut
       cases kq with
       | zero => exact absurd HA.out (by simp [r14_Made.j3])
       | succ kj14 =>
        have H := HA.out
        clear HA
        simp only [r14_Made.j3] at H
        by_cases c17 : x60_14 = true
        ·subst c17
         have H1 : ((r01_At.f l0 x8_2 1048576).bind fun t114 => (if (wrap64 ((wrap64 (1 + t103)) + 1)) = 0 then (none) else (if (wrap64 ((Int.tmod t114 (wrap64 ((wrap64 (1 + t103)) + 1))) - 1)) = (wrap64 ((Int.tmod (wrap64 (Int.tdiv t114 8)) (wrap64 ((wrap64 (1 + t103)) + 1))) - 1)) then (r14_Made.l1 kj14 l0 (wrap64 (1 + t103)) x5_2 (wrap64 (x8_2 + 1))) else (if x5_2.length < 5864062014805 then (r14_Made.l1 kj14 l0 (wrap64 (1 + t103)) (x5_2 ++ [(⟨wrap64 ((Int.tmod t114 (wrap64 ((wrap64 (1 + t103)) + 1))) - 1), wrap64 ((Int.tmod (wrap64 (Int.tdiv t114 8)) (wrap64 ((wrap64 (1 + t103)) + 1))) - 1), wrap64 ((Int.tmod (wrap64 (Int.tdiv t114 64)) 11) - 3)⟩ : S54)]) (wrap64 (x8_2 + 1))) else (none))))) = some (r1, r2) := by rw [if_pos rfl] at H; exact H
         clear H
         have H := H1
         clear H1
         replace H := Option.bind_eq_some_iff.mp H
         obtain ⟨t114, A180, H⟩ := H
         replace H : (if (wrap64 ((wrap64 (1 + t103)) + 1)) = 0 then (none) else (if (wrap64 ((Int.tmod t114 (wrap64 ((wrap64 (1 + t103)) + 1))) - 1)) = (wrap64 ((Int.tmod (wrap64 (Int.tdiv t114 8)) (wrap64 ((wrap64 (1 + t103)) + 1))) - 1)) then (r14_Made.l1 kj14 l0 (wrap64 (1 + t103)) x5_2 (wrap64 (x8_2 + 1))) else (if x5_2.length < 5864062014805 then (r14_Made.l1 kj14 l0 (wrap64 (1 + t103)) (x5_2 ++ [(⟨wrap64 ((Int.tmod t114 (wrap64 ((wrap64 (1 + t103)) + 1))) - 1), wrap64 ((Int.tmod (wrap64 (Int.tdiv t114 8)) (wrap64 ((wrap64 (1 + t103)) + 1))) - 1), wrap64 ((Int.tmod (wrap64 (Int.tdiv t114 64)) 11) - 3)⟩ : S54)]) (wrap64 (x8_2 + 1))) else (none)))) = some (r1, r2) := H
         have A18 := Aside0.mk A180
         clear A180
         by_cases c19 : (wrap64 ((wrap64 (1 + t103)) + 1)) = 0
         ·rw [if_pos c19] at H
          exact absurd H (by simp)
         ·rw [if_neg c19] at H
          have c19b0 : ((wrap64 ((wrap64 (1 + t103)) + 1)) == 0) = false := beq_eq_false_iff_ne.mpr c19
          have c19b1 : ((wrap64 ((wrap64 (1 + t103)) + 1)) != 0) = true := bne_iff_ne.mpr c19
          by_cases c20 : (wrap64 ((Int.tmod t114 (wrap64 ((wrap64 (1 + t103)) + 1))) - 1)) = (wrap64 ((Int.tmod (wrap64 (Int.tdiv t114 8)) (wrap64 ((wrap64 (1 + t103)) + 1))) - 1))
          ·rw [if_pos c20] at H
           have c20b0 : ((wrap64 ((Int.tmod t114 (wrap64 ((wrap64 (1 + t103)) + 1))) - 1)) == (wrap64 ((Int.tmod (wrap64 (Int.tdiv t114 8)) (wrap64 ((wrap64 (1 + t103)) + 1))) - 1))) = true := beq_iff_eq.mpr c20
           have c20b1 : ((wrap64 ((Int.tmod t114 (wrap64 ((wrap64 (1 + t103)) + 1))) - 1)) != (wrap64 ((Int.tmod (wrap64 (Int.tdiv t114 8)) (wrap64 ((wrap64 (1 + t103)) + 1))) - 1))) = false := bne_eq_false_iff_eq.mpr c20
           clear c20
           have H' := Aside0.mk H
           clear H
           go_wp2_with (first | ((with_reducible refine gate_callee (f := 27) rfl ?_); refine goesL_ (some 65) rfl rfl Try.func27 (by kernel_rfl) rfl #[.slice A0 l0.length c0, .int .i64 x8_2, .int .i64 1048576] rfl (by (try simp only [List.map_toArray, List.map_cons, List.map_nil]); first | done | rfl | (simp only [List.length_drop, List.length_take]; rfl)) ?_; (with_reducible refine (r01_At.calls _ _ l0 x8_2 1048576 t114 _ ?side1 ?side2 A18.out).mono ?_); (case side1 => repeat (first | exact (Kd.C_below HR0.out HB.out) | (with_reducible refine Kd.C_alloc ?_ _) | (with_reducible refine Kd.C_drewN ?_ _) | (with_reducible refine Kd.C_drew ?_))); (case side2 => exact HC0.out); rintro e w' ⟨rfl, ⟨nd, rfl⟩⟩; refine ⟨_, rfl, ?_⟩))
           go_roundg kj14
           case measure => have := HK1.out; have := HK2.out; have := HJ14.out; omega
           case rel => exact ⟨(x5_2), (wrap64 (x8_2 + 1)), (by first | rfl | (simp; done) | (simp [*]; done)), H', ⟨by have := HK1.out; have := HK2.out; have := HJ14.out; omega⟩, ⟨gR (HO_5.out)⟩, ⟨bl HB.out⟩⟩
          ·rw [if_neg c20] at H
           have c20b0 : ((wrap64 ((Int.tmod t114 (wrap64 ((wrap64 (1 + t103)) + 1))) - 1)) == (wrap64 ((Int.tmod (wrap64 (Int.tdiv t114 8)) (wrap64 ((wrap64 (1 + t103)) + 1))) - 1))) = false := beq_eq_false_iff_ne.mpr c20
           have c20b1 : ((wrap64 ((Int.tmod t114 (wrap64 ((wrap64 (1 + t103)) + 1))) - 1)) != (wrap64 ((Int.tmod (wrap64 (Int.tdiv t114 8)) (wrap64 ((wrap64 (1 + t103)) + 1))) - 1))) = true := bne_iff_ne.mpr c20
           by_cases c21 : x5_2.length < 5864062014805
           ·rw [if_pos c21] at H
            have LMc21 := Aside0.mk c21
            clear c21
            obtain ⟨y115, hy115⟩ : ∃ y_ : List (S54), y_ = (x5_2 ++ [(⟨wrap64 ((Int.tmod t114 (wrap64 ((wrap64 (1 + t103)) + 1))) - 1), wrap64 ((Int.tmod (wrap64 (Int.tdiv t114 8)) (wrap64 ((wrap64 (1 + t103)) + 1))) - 1), wrap64 ((Int.tmod (wrap64 (Int.tdiv t114 64)) 11) - 3)⟩ : S54)]) := ⟨_, rfl⟩
            replace H : (r14_Made.l1 kj14 l0 (wrap64 (1 + t103)) y115 (wrap64 (x8_2 + 1))) = some (r1, r2) := by first | (rw [hy115]; with_reducible exact H) | (have H2_ := (Option.bind_some _ _).symm.trans H; rw [hy115]; with_reducible exact H2_) | (have H2_ := (Option.bind_some _ _).symm.trans H; with_reducible exact H2_) | with_reducible exact H | (rw [hy115]; exact H) | exact H
            have Ny115 := Aside0.mk hy115
            clear hy115
            have H' := Aside0.mk H
            clear H
            go_wp2_with (first | ((with_reducible refine gate_callee (f := 27) rfl ?_); refine goesL_ (some 65) rfl rfl Try.func27 (by kernel_rfl) rfl #[.slice A0 l0.length c0, .int .i64 x8_2, .int .i64 1048576] rfl (by (try simp only [List.map_toArray, List.map_cons, List.map_nil]); first | done | rfl | (simp only [List.length_drop, List.length_take]; rfl)) ?_; (with_reducible refine (r01_At.calls _ _ l0 x8_2 1048576 t114 _ ?side1 ?side2 A18.out).mono ?_); (case side1 => repeat (first | exact (Kd.C_below HR0.out HB.out) | (with_reducible refine Kd.C_alloc ?_ _) | (with_reducible refine Kd.C_drewN ?_ _) | (with_reducible refine Kd.C_drew ?_))); (case side2 => exact HC0.out); rintro e w' ⟨rfl, ⟨nd, rfl⟩⟩; refine ⟨_, rfl, ?_⟩) | ((with_reducible refine gate_builtin (b := .append) (xs := #[.tmp 80, .tmp 88]) rfl ?_); at_builtin; refine Kd.R_append k54 (w0 := w) w.heap.size rfl (.tmp 80) (.tmp 88) 23 54 (.agg #[(.int .i64 0), (.int .i64 0), (.int .i64 0)]) 24 rfl Try.underlying23 info54 rfl (by decide) (by omega) u5 x5_2 (⟨wrap64 ((Int.tmod t114 (wrap64 ((wrap64 (1 + t103)) + 1))) - 1), wrap64 ((Int.tmod (wrap64 (Int.tdiv t114 8)) (wrap64 ((wrap64 (1 + t103)) + 1))) - 1), wrap64 ((Int.tmod (wrap64 (Int.tdiv t114 64)) 11) - 3)⟩ : S54) [.int .i64 (wrap64 ((Int.tmod t114 (wrap64 ((wrap64 (1 + t103)) + 1))) - 1)), .int .i64 (wrap64 ((Int.tmod (wrap64 (Int.tdiv t114 8)) (wrap64 ((wrap64 (1 + t103)) + 1))) - 1)), .int .i64 (wrap64 ((Int.tmod (wrap64 (Int.tdiv t114 64)) 11) - 3))] (fun _ => True) (fun _ => False) rfl rfl ?aP (fun _ hk => hk.elim) ?aF ?aO ?aB ?aS ?aL ?_; (case aP => exact k54_mkM _ _ _ (⟨wrap64 ((Int.tmod t114 (wrap64 ((wrap64 (1 + t103)) + 1))) - 1), wrap64 ((Int.tmod (wrap64 (Int.tdiv t114 8)) (wrap64 ((wrap64 (1 + t103)) + 1))) - 1), wrap64 ((Int.tmod (wrap64 (Int.tdiv t114 64)) 11) - 3)⟩ : S54)); (case aB => exact (by repeat (first | (with_reducible first | exact HB.out | apply below_alloc | apply pw_below_drewN | apply below_drew1) | exact HB.out))); (case aF => exact (fun _ _ => trivial)); (case aO => exact (by (with_reducible repeat (first | apply Kd.R_alloc | apply Kd.R_drewN | apply Kd.R_drew)); exact HO_5.out)); (case aS => exact (below_size (by repeat (first | (with_reducible first | exact HB.out | apply below_alloc | apply pw_below_drewN | apply below_drew1) | exact HB.out)))); (case aL => have := LMc21.out; omega); intro v116 w22 ho hb hg hat; rw [← Ny115.out] at ho; have n0_ := Aside0.mk (hb); have n1_ := Aside0.mk (ho); clear HB; clear HO_5; have HB := n0_; have HO117 := n1_; clear n0_ n1_; clear ho hb hg hat))
            go_roundg kj14
            case measure => have := HK1.out; have := HK2.out; have := HJ14.out; omega
            case rel => exact ⟨(y115), (wrap64 (x8_2 + 1)), (by first | rfl | (simp; done) | (simp [*]; done)), H', ⟨by have := HK1.out; have := HK2.out; have := HJ14.out; omega⟩, ⟨gR (HO117.out)⟩, ⟨bl HB.out⟩⟩
           ·rw [if_neg c21] at H
            exact absurd H (by simp)
        ·replace c17 := Bool.eq_false_iff.mpr c17
         subst c17
         have H1 : (some ((wrap64 (1 + t103)), x5_2)) = some (r1, r2) := by rw [if_neg (show ¬ (false = true) by decide)] at H; exact H
         clear H
         have H := H1
         clear H1
         simp only [Option.some.injEq, Prod.mk.injEq] at H
         obtain ⟨rfl, rfl⟩ := H
         go_wp2
         go_ret2
         exact ⟨_, by first | rfl | (simp [errW_none, errW_some] <;> rfl) | (simp [*, errW_none, errW_some] <;> rfl), gR (HO_5.out), bl HB.out⟩

end Go.Proofs.Ytcnkjcbjlopkmaa.Q
