-- Written out of the translation by a program of this session (wip/tools/myprint.py, over the kit's print). Lean checks it.
import Derived.Test.YtcnkjcbjlopkmaaHid
import Derived.Test.YtcnkjcbjlopkmaaSh
import Derived.Test.YtcnkjcbjlopkmaaQ0
namespace Go.Proofs.Ytcnkjcbjlopkmaa.Q
open Go.RowKit Go.Proofs.YtcnkjcbjlopkmaaW.PrintWords Go.Proofs.YtcnkjcbjlopkmaaW.PrintLast Go.Proofs.YtcnkjcbjlopkmaaW.PrintMore
attribute [local go_sem] max2_int min2_int max_two min_two max_three min_three max_four min_four   -- for this text's walks alone
set_option linter.unusedVariables false
set_option linter.unusedSimpArgs false

/-! ### r14_Bent: function 10 -/
def r14_Bent.l0 : Nat → Int → List (S54) → Int → Option ((List (S54)))
 | 0, _, _, _ => none
 | k + 1, x3, x9, x10 => (r01_Around.f x3 3).bind fun t142 => (if (x9.length : Int) < (wrap64 (63 + t142)) then (if 0 ≤ x10 then (if x10 < (x9.length : Int) then (if x9.length < 5864062014805 then (r14_Bent.l0 k x3 (x9 ++ [(⟨(rd_T54 x9 x10).f0, (rd_T54 x9 x10).f1, (rd_T54 x9 x10).f2⟩ : S54)]) x10) else (none)) else (none)) else (none)) else (some x9))
def r14_Bent.f (k : Nat) (l0 : List (S54)) (a1 : Int) (a2 : Int) (a3 : Int) : Option ((List (S54))) := if ([] : List (S54)).length + l0.length < 5864062014805 then ((some (([] : List (S54)) ++ l0 : List (S54))).bind fun y118 => (if (y118.length : Int) = 0 then ((r01_Around.f a3 5).bind fun t121 => ((r01_Around.f a3 8388608).bind fun t122 => (some (([(⟨wrap64 (t121 - 2), 0, wrap64 (t122 - 4194304)⟩ : S54)] : List (S54)))))) else ((r01_Around.f a1 (y118.length : Int)).bind fun t126 => ((r01_Around.f a2 6).bind fun t127 => (if t127 = 0 then ((r01_Around.f a3 9).bind fun t128 => (if 0 ≤ t126 then (if t126 < (y118.length : Int) then (some (y118.set (t126 : Int).toNat (⟨wrap64 (t128 - 2), (rd_T54 y118 t126).f1, (rd_T54 y118 t126).f2⟩ : S54))) else (none)) else (none))) else (if t127 = 1 then ((r01_Around.f a3 9).bind fun t130 => (if 0 ≤ t126 then (if t126 < (y118.length : Int) then (some (y118.set (t126 : Int).toNat (⟨(rd_T54 y118 t126).f0, wrap64 (t130 - 2), (rd_T54 y118 t126).f2⟩ : S54))) else (none)) else (none))) else (if t127 = 2 then ((some (([(-2097152), 2097152, (-2097153), 2097153, 0, (-5)] : List Int) : List Int)).bind fun y132 => ((r01_Around.f a3 6).bind fun t135 => (if 0 ≤ t135 then (if t135 < (y132.length : Int) then (if 0 ≤ t126 then (if t126 < (y118.length : Int) then (some (y118.set (t126 : Int).toNat (⟨(rd_T54 y118 t126).f0, (rd_T54 y118 t126).f1, rd y132 t135⟩ : S54))) else (none)) else (none)) else (none)) else (none)))) else (if t127 = 3 then (if 0 ≤ t126 then (if t126 < (y118.length : Int) then (if y118.length < 5864062014805 then (some (y118 ++ [(⟨(rd_T54 y118 t126).f0, (rd_T54 y118 t126).f1, (rd_T54 y118 t126).f2⟩ : S54)])) else (none)) else (none)) else (none)) else (if t127 = 4 then (r14_Bent.l0 k a3 y118 t126) else (if 0 ≤ t126 then (if t126 ≤ (y118.length : Int) then (if 0 ≤ (wrap64 (t126 + 1)) then (if (wrap64 (t126 + 1)) ≤ (y118.length : Int) then (some (y118.eraseIdx (t126 : Int).toNat)) else (none)) else (none)) else (none)) else (none))))))))))) else (none)
theorem r14_Bent.mono_l : ∀ k, (∀ y0 y1 y2, LeO (r14_Bent.l0 k y0 y1 y2) (r14_Bent.l0 (k + 1) y0 y1 y2))
 | 0 => fun _ _ _ r h => by simp [r14_Bent.l0] at h
 | k + 1 => by
  have ih0 := r14_Bent.mono_l k
  ·intro y0 y1 y2
   unfold r14_Bent.l0
   repeat' first
   | (with_reducible exact ih0 _ _ _)
   | (with_reducible exact LeO.refl _)
   | (with_reducible exact LeO.none _)
   | (with_reducible refine LeO.ite ?_ ?_)
   | (with_reducible refine LeO.bind ?_ (fun _ => ?_))
   | exact LeO.none _
   | refine LeO.ite ?_ ?_
   | refine LeO.bind ?_ (fun _ => ?_)
theorem r14_Bent.mono : ∀ a0 a1 a2 a3 k, LeO (r14_Bent.f k a0 a1 a2 a3) (r14_Bent.f (k + 1) a0 a1 a2 a3) := by
 intro a0 a1 a2 a3 k
 have ih0 := r14_Bent.mono_l k
 unfold r14_Bent.f
 repeat' first
   | (with_reducible exact ih0 _ _ _)
   | (with_reducible exact LeO.refl _)
   | (with_reducible exact LeO.none _)
   | (with_reducible refine LeO.ite ?_ ?_)
   | (with_reducible refine LeO.bind ?_ (fun _ => ?_))
   | exact LeO.none _
   | refine LeO.ite ?_ ?_
   | refine LeO.bind ?_ (fun _ => ?_)
def r14_Bent.T7 : Bool × List (List Nat × List Nat) := (true, [([], []), ([], []), ([0, 1], [0, 1]), ([], []), ([], []), ([4], [4]), ([3, 5], [3, 5]), ([2, 6], [2, 6]), ([7, 7, 0, 1, 2, 3, 4, 5, 6, 7], [0, 3, 7])])
def r14_Bent.B7 : List Nat := [0, 0, 3, 0, 0, 16, 56, 127, 255]
theorem r14_Bent.tab7 : rtab .any (opsOf Try.f10 7) = r14_Bent.T7 := by kernel_rfl
theorem r14_Bent.bits7 : waitsOk r14_Bent.T7.2 r14_Bent.B7 = true := by kernel_rfl
set_option maxHeartbeats 8000000 in
set_option maxRecDepth 100000 in
theorem r14_Bent.calls (k : Nat) (A0 : Option Addr) (c0 : Nat) (l0 : List (S54)) (a1 : Int) (a2 : Int) (a3 : Int) (r : List (S54)) (w : World) (hr0 : Kd.C k54 w A0 l0.length l0) (hc0 : l0.length ≤ c0) (h : r14_Bent.f k l0 a1 a2 a3 = some r) :
  Calls Try.prog 10 #[.slice A0 l0.length c0, .int .i64 a1, .int .i64 a2, .int .i64 a3] w fun e w' => ∃ v0_ : Value, e = .returned (v0_) ∧ Kd.R k54 54 w' w.heap.size (fun _ => True) v0_ r ∧ Below w.heap.size w w' := by
 have hu54 := Try.underlying54
 have HR0 := Aside0.mk hr0
 have HC0 := Aside0.mk hc0
 clear hr0 hc0
 have HB := Aside0.mk (Below.refl w.heap.size w)
 have H : (if ([] : List (S54)).length + l0.length < 5864062014805 then ((some (([] : List (S54)) ++ l0 : List (S54))).bind fun y118 => (if (y118.length : Int) = 0 then ((r01_Around.f a3 5).bind fun t121 => ((r01_Around.f a3 8388608).bind fun t122 => (some (([(⟨wrap64 (t121 - 2), 0, wrap64 (t122 - 4194304)⟩ : S54)] : List (S54)))))) else ((r01_Around.f a1 (y118.length : Int)).bind fun t126 => ((r01_Around.f a2 6).bind fun t127 => (if t127 = 0 then ((r01_Around.f a3 9).bind fun t128 => (if 0 ≤ t126 then (if t126 < (y118.length : Int) then (some (y118.set (t126 : Int).toNat (⟨wrap64 (t128 - 2), (rd_T54 y118 t126).f1, (rd_T54 y118 t126).f2⟩ : S54))) else (none)) else (none))) else (if t127 = 1 then ((r01_Around.f a3 9).bind fun t130 => (if 0 ≤ t126 then (if t126 < (y118.length : Int) then (some (y118.set (t126 : Int).toNat (⟨(rd_T54 y118 t126).f0, wrap64 (t130 - 2), (rd_T54 y118 t126).f2⟩ : S54))) else (none)) else (none))) else (if t127 = 2 then ((some (([(-2097152), 2097152, (-2097153), 2097153, 0, (-5)] : List Int) : List Int)).bind fun y132 => ((r01_Around.f a3 6).bind fun t135 => (if 0 ≤ t135 then (if t135 < (y132.length : Int) then (if 0 ≤ t126 then (if t126 < (y118.length : Int) then (some (y118.set (t126 : Int).toNat (⟨(rd_T54 y118 t126).f0, (rd_T54 y118 t126).f1, rd y132 t135⟩ : S54))) else (none)) else (none)) else (none)) else (none)))) else (if t127 = 3 then (if 0 ≤ t126 then (if t126 < (y118.length : Int) then (if y118.length < 5864062014805 then (some (y118 ++ [(⟨(rd_T54 y118 t126).f0, (rd_T54 y118 t126).f1, (rd_T54 y118 t126).f2⟩ : S54)])) else (none)) else (none)) else (none)) else (if t127 = 4 then (r14_Bent.l0 k a3 y118 t126) else (if 0 ≤ t126 then (if t126 ≤ (y118.length : Int) then (if 0 ≤ (wrap64 (t126 + 1)) then (if (wrap64 (t126 + 1)) ≤ (y118.length : Int) then (some (y118.eraseIdx (t126 : Int).toNat)) else (none)) else (none)) else (none)) else (none))))))))))) else (none)) = some r := h
 clear h
 by_cases c5 : ([] : List (S54)).length + l0.length < 5864062014805
 ·rw [if_pos c5] at H
  have LMc5 := Aside0.mk c5
  clear c5
  obtain ⟨y118, hy118⟩ : ∃ y_ : List (S54), y_ = (([] : List (S54)) ++ l0) := ⟨_, rfl⟩
  replace H : (if (y118.length : Int) = 0 then ((r01_Around.f a3 5).bind fun t121 => ((r01_Around.f a3 8388608).bind fun t122 => (some (([(⟨wrap64 (t121 - 2), 0, wrap64 (t122 - 4194304)⟩ : S54)] : List (S54)))))) else ((r01_Around.f a1 (y118.length : Int)).bind fun t126 => ((r01_Around.f a2 6).bind fun t127 => (if t127 = 0 then ((r01_Around.f a3 9).bind fun t128 => (if 0 ≤ t126 then (if t126 < (y118.length : Int) then (some (y118.set (t126 : Int).toNat (⟨wrap64 (t128 - 2), (rd_T54 y118 t126).f1, (rd_T54 y118 t126).f2⟩ : S54))) else (none)) else (none))) else (if t127 = 1 then ((r01_Around.f a3 9).bind fun t130 => (if 0 ≤ t126 then (if t126 < (y118.length : Int) then (some (y118.set (t126 : Int).toNat (⟨(rd_T54 y118 t126).f0, wrap64 (t130 - 2), (rd_T54 y118 t126).f2⟩ : S54))) else (none)) else (none))) else (if t127 = 2 then ((some (([(-2097152), 2097152, (-2097153), 2097153, 0, (-5)] : List Int) : List Int)).bind fun y132 => ((r01_Around.f a3 6).bind fun t135 => (if 0 ≤ t135 then (if t135 < (y132.length : Int) then (if 0 ≤ t126 then (if t126 < (y118.length : Int) then (some (y118.set (t126 : Int).toNat (⟨(rd_T54 y118 t126).f0, (rd_T54 y118 t126).f1, rd y132 t135⟩ : S54))) else (none)) else (none)) else (none)) else (none)))) else (if t127 = 3 then (if 0 ≤ t126 then (if t126 < (y118.length : Int) then (if y118.length < 5864062014805 then (some (y118 ++ [(⟨(rd_T54 y118 t126).f0, (rd_T54 y118 t126).f1, (rd_T54 y118 t126).f2⟩ : S54)])) else (none)) else (none)) else (none)) else (if t127 = 4 then (r14_Bent.l0 k a3 y118 t126) else (if 0 ≤ t126 then (if t126 ≤ (y118.length : Int) then (if 0 ≤ (wrap64 (t126 + 1)) then (if (wrap64 (t126 + 1)) ≤ (y118.length : Int) then (some (y118.eraseIdx (t126 : Int).toNat)) else (none)) else (none)) else (none)) else (none)))))))))) = some r := by first | (rw [hy118]; with_reducible exact H) | (have H2_ := (Option.bind_some _ _).symm.trans H; rw [hy118]; with_reducible exact H2_) | (have H2_ := (Option.bind_some _ _).symm.trans H; with_reducible exact H2_) | with_reducible exact H | (rw [hy118]; exact H) | exact H
  have Ny118 := Aside0.mk hy118
  clear hy118
  by_cases c6 : (y118.length : Int) = 0
  ·rw [if_pos c6] at H
   have c6b0 : ((y118.length : Int) == 0) = true := beq_iff_eq.mpr c6
   have c6b1 : ((y118.length : Int) != 0) = false := bne_eq_false_iff_eq.mpr c6
   clear c6
   replace H := Option.bind_eq_some_iff.mp H
   obtain ⟨t121, A70, H⟩ := H
   replace H : ((r01_Around.f a3 8388608).bind fun t122 => (some (([(⟨wrap64 (t121 - 2), 0, wrap64 (t122 - 4194304)⟩ : S54)] : List (S54))))) = some r := H
   have A7 := Aside0.mk A70
   clear A70
   replace H := Option.bind_eq_some_iff.mp H
   obtain ⟨t122, A80, H⟩ := H
   replace H : (some (([(⟨wrap64 (t121 - 2), 0, wrap64 (t122 - 4194304)⟩ : S54)] : List (S54)))) = some r := H
   have A8 := Aside0.mk A80
   clear A80
   obtain ⟨y123, hy123⟩ : ∃ y_ : List (S54), y_ = (([(⟨wrap64 (t121 - 2), 0, wrap64 (t122 - 4194304)⟩ : S54)] : List (S54))) := ⟨_, rfl⟩
   replace H : (some y123) = some r := by first | (rw [hy123]; with_reducible exact H) | (have H2_ := (Option.bind_some _ _).symm.trans H; rw [hy123]; with_reducible exact H2_) | (have H2_ := (Option.bind_some _ _).symm.trans H; with_reducible exact H2_) | with_reducible exact H | (rw [hy123]; exact H) | exact H
   have Ny123 := Aside0.mk hy123
   clear hy123
   obtain rfl := Option.some.inj H
   go_enter Try.func10, Try.ntmps10
   go_wp2_with (first | ((with_reducible refine gate_builtin (b := .append) (xs := #[.tmp 11, .tmp 12]) rfl ?_); at_builtin; refine Kd.R_append_rows k54 (w0 := w) w.heap.size rfl (.tmp 11) (.tmp 12) 23 54 (.agg #[(.int .i64 0), (.int .i64 0), (.int .i64 0)]) 24 rfl Try.underlying23 info54 rfl (by decide) (by omega) (.slice none 0 0) ([] : List (S54)) l0 _ _ _ (fun _ => True) (fun _ => False) rfl rfl ?aO ?aR (fun _ _ h => h) (fun _ h => h.elim) ?aF ?aB ?aS ?aL ?_; (case aR => exact gC (HR0.out)); (case aB => exact (bl HB.out)); (case aF => exact (fun _ _ => trivial)); (case aO => exact ((Kd.R_nil _ _ _ _ (fun _ => True)))); (case aS => exact (below_size (bl HB.out))); (case aL => have := LMc5.out; omega); intro v119 w9 ho hb hg hat; rw [← Ny118.out] at ho; have n0_ := Aside0.mk (hb); have n1_ := Aside0.mk (ho); clear HB; have HB := n0_; have HO120 := n1_; clear n0_ n1_; clear ho hb hg hat; obtain ⟨Ao10, co10, eo10⟩ := Kd.R_slice HO120.out; subst eo10) | ((with_reducible refine gate_callee (f := 11) rfl ?_); refine goesL_ (some 18) rfl rfl Try.func11 (by kernel_rfl) rfl #[.int .i64 a3, .int .i64 5] rfl (by (try simp only [List.map_toArray, List.map_cons, List.map_nil]); first | done | rfl | (simp only [List.length_drop, List.length_take]; rfl)) ?_; (with_reducible refine (r01_Around.calls a3 5 t121 _ A7.out).mono ?_); rintro e w' ⟨rfl, ⟨nd, rfl⟩⟩; refine ⟨_, rfl, ?_⟩) | ((with_reducible refine gate_callee (f := 11) rfl ?_); refine goesL_ (some 21) rfl rfl Try.func11 (by kernel_rfl) rfl #[.int .i64 a3, .int .i64 8388608] rfl (by (try simp only [List.map_toArray, List.map_cons, List.map_nil]); first | done | rfl | (simp only [List.length_drop, List.length_take]; rfl)) ?_; (with_reducible refine (r01_Around.calls a3 8388608 t122 _ A8.out).mono ?_); rintro e w' ⟨rfl, ⟨nd, rfl⟩⟩; refine ⟨_, rfl, ?_⟩) | ((with_reducible refine gate_dst (N := 24) rfl ?_); refine Kd.R_lit k54 _ 54 ?hg (N := 24) ?hd (xs := ([(⟨wrap64 (t121 - 2), 0, wrap64 (t122 - 4194304)⟩ : S54)] : List (S54))) (inner := [.int .i64 (wrap64 (t121 - 2)), .int .i64 0, .int .i64 (wrap64 (t122 - 4194304))]) (ok := fun _ => True) (okp := fun _ => True) ?hr ?hp (fun _ hk => hk) trivial (Below.refl _ _) (Nat.le_refl _) (by simp) ?_; (case hd => rfl); (case hg => rfl); (case hr => first | (go_simp; done) | (go_simp; rfl)); (case hp => exact (Reps.c3 (show Kd.M k54 _ _ _ (⟨wrap64 (t121 - 2), 0, wrap64 (t122 - 4194304)⟩ : S54) [.int .i64 (wrap64 (t121 - 2)), .int .i64 0, .int .i64 (wrap64 (t122 - 4194304))] from (k54_mkM _ _ _ (⟨wrap64 (t121 - 2), 0, wrap64 (t122 - 4194304)⟩ : S54) )) (Reps.none _ _))); intro v124 w11 ho12 hb hg_ hnew_; clear hg_ hnew_; (first | rw [← Ny123.out] at ho12 | (simp only [Int.reduceToNat] at ho12; rw [← Ny123.out] at ho12)); have n0_ := Aside0.mk (Kd.R_elder' (gR (HO120.out)) (Kd.R_base ho12) hb); have n1_ := Aside0.mk (Kd.R_lower (Kd.R_new' ho12 (Kd.R_lt (gR (HO120.out)))) (below_size (bl HB.out))); have n2_ := Aside0.mk (below_step (bl HB.out) hb); clear HO120; clear HB; have HO120 := n0_; have HO125 := n1_; have HB := n2_; clear n0_ n1_ n2_; clear hb ho12))
   go_ret
   exact ⟨_, by first | rfl | (simp [errW_none, errW_some] <;> rfl) | (simp [*, errW_none, errW_some] <;> rfl), gR (Kd.R_mono HO125.out (fun _ hk => trivial)), bl HB.out⟩
  ·rw [if_neg c6] at H
   have c6b0 : ((y118.length : Int) == 0) = false := beq_eq_false_iff_ne.mpr c6
   have c6b1 : ((y118.length : Int) != 0) = true := bne_iff_ne.mpr c6
   have c6b2 : ¬ (y118 = []) := fun h_ => c6 (by rw [h_]; rfl)
   replace H := Option.bind_eq_some_iff.mp H
   obtain ⟨t126, A130, H⟩ := H
   replace H : ((r01_Around.f a2 6).bind fun t127 => (if t127 = 0 then ((r01_Around.f a3 9).bind fun t128 => (if 0 ≤ t126 then (if t126 < (y118.length : Int) then (some (y118.set (t126 : Int).toNat (⟨wrap64 (t128 - 2), (rd_T54 y118 t126).f1, (rd_T54 y118 t126).f2⟩ : S54))) else (none)) else (none))) else (if t127 = 1 then ((r01_Around.f a3 9).bind fun t130 => (if 0 ≤ t126 then (if t126 < (y118.length : Int) then (some (y118.set (t126 : Int).toNat (⟨(rd_T54 y118 t126).f0, wrap64 (t130 - 2), (rd_T54 y118 t126).f2⟩ : S54))) else (none)) else (none))) else (if t127 = 2 then ((some (([(-2097152), 2097152, (-2097153), 2097153, 0, (-5)] : List Int) : List Int)).bind fun y132 => ((r01_Around.f a3 6).bind fun t135 => (if 0 ≤ t135 then (if t135 < (y132.length : Int) then (if 0 ≤ t126 then (if t126 < (y118.length : Int) then (some (y118.set (t126 : Int).toNat (⟨(rd_T54 y118 t126).f0, (rd_T54 y118 t126).f1, rd y132 t135⟩ : S54))) else (none)) else (none)) else (none)) else (none)))) else (if t127 = 3 then (if 0 ≤ t126 then (if t126 < (y118.length : Int) then (if y118.length < 5864062014805 then (some (y118 ++ [(⟨(rd_T54 y118 t126).f0, (rd_T54 y118 t126).f1, (rd_T54 y118 t126).f2⟩ : S54)])) else (none)) else (none)) else (none)) else (if t127 = 4 then (r14_Bent.l0 k a3 y118 t126) else (if 0 ≤ t126 then (if t126 ≤ (y118.length : Int) then (if 0 ≤ (wrap64 (t126 + 1)) then (if (wrap64 (t126 + 1)) ≤ (y118.length : Int) then (some (y118.eraseIdx (t126 : Int).toNat)) else (none)) else (none)) else (none)) else (none)))))))) = some r := H
   have A13 := Aside0.mk A130
   clear A130
   replace H := Option.bind_eq_some_iff.mp H
   obtain ⟨t127, A140, H⟩ := H
   replace H : (if t127 = 0 then ((r01_Around.f a3 9).bind fun t128 => (if 0 ≤ t126 then (if t126 < (y118.length : Int) then (some (y118.set (t126 : Int).toNat (⟨wrap64 (t128 - 2), (rd_T54 y118 t126).f1, (rd_T54 y118 t126).f2⟩ : S54))) else (none)) else (none))) else (if t127 = 1 then ((r01_Around.f a3 9).bind fun t130 => (if 0 ≤ t126 then (if t126 < (y118.length : Int) then (some (y118.set (t126 : Int).toNat (⟨(rd_T54 y118 t126).f0, wrap64 (t130 - 2), (rd_T54 y118 t126).f2⟩ : S54))) else (none)) else (none))) else (if t127 = 2 then ((some (([(-2097152), 2097152, (-2097153), 2097153, 0, (-5)] : List Int) : List Int)).bind fun y132 => ((r01_Around.f a3 6).bind fun t135 => (if 0 ≤ t135 then (if t135 < (y132.length : Int) then (if 0 ≤ t126 then (if t126 < (y118.length : Int) then (some (y118.set (t126 : Int).toNat (⟨(rd_T54 y118 t126).f0, (rd_T54 y118 t126).f1, rd y132 t135⟩ : S54))) else (none)) else (none)) else (none)) else (none)))) else (if t127 = 3 then (if 0 ≤ t126 then (if t126 < (y118.length : Int) then (if y118.length < 5864062014805 then (some (y118 ++ [(⟨(rd_T54 y118 t126).f0, (rd_T54 y118 t126).f1, (rd_T54 y118 t126).f2⟩ : S54)])) else (none)) else (none)) else (none)) else (if t127 = 4 then (r14_Bent.l0 k a3 y118 t126) else (if 0 ≤ t126 then (if t126 ≤ (y118.length : Int) then (if 0 ≤ (wrap64 (t126 + 1)) then (if (wrap64 (t126 + 1)) ≤ (y118.length : Int) then (some (y118.eraseIdx (t126 : Int).toNat)) else (none)) else (none)) else (none)) else (none))))))) = some r := H
   have A14 := Aside0.mk A140
   clear A140
   by_cases c15 : t127 = 0
   ·rw [if_pos c15] at H
    have c15b0 : (t127 == 0) = true := beq_iff_eq.mpr c15
    have c15b1 : (t127 != 0) = false := bne_eq_false_iff_eq.mpr c15
    clear c15
    replace H := Option.bind_eq_some_iff.mp H
    obtain ⟨t128, A160, H⟩ := H
    replace H : (if 0 ≤ t126 then (if t126 < (y118.length : Int) then (some (y118.set (t126 : Int).toNat (⟨wrap64 (t128 - 2), (rd_T54 y118 t126).f1, (rd_T54 y118 t126).f2⟩ : S54))) else (none)) else (none)) = some r := H
    have A16 := Aside0.mk A160
    clear A160
    by_cases c17 : 0 ≤ t126
    case neg => rw [if_neg c17] at H; exact absurd H (by simp)
    rw [if_pos c17] at H
    have c17b0 : decide (0 ≤ t126) = true := decide_eq_true c17
    clear c17
    by_cases c18 : t126 < (y118.length : Int)
    case neg => rw [if_neg c18] at H; exact absurd H (by simp)
    rw [if_pos c18] at H
    have c18b0 : decide (t126 < (y118.length : Int)) = true := decide_eq_true c18
    clear c18
    obtain ⟨y129, hy129⟩ : ∃ y_ : List (S54), y_ = (y118.set (t126 : Int).toNat (⟨wrap64 (t128 - 2), (rd_T54 y118 t126).f1, (rd_T54 y118 t126).f2⟩ : S54)) := ⟨_, rfl⟩
    replace H : (some y129) = some r := by first | (rw [hy129]; with_reducible exact H) | (have H2_ := (Option.bind_some _ _).symm.trans H; rw [hy129]; with_reducible exact H2_) | (have H2_ := (Option.bind_some _ _).symm.trans H; with_reducible exact H2_) | with_reducible exact H | (rw [hy129]; exact H) | exact H
    have Ny129 := Aside0.mk hy129
    clear hy129
    obtain rfl := Option.some.inj H
    go_enter Try.func10, Try.ntmps10
    go_wp2_with (first | ((with_reducible refine gate_builtin (b := .append) (xs := #[.tmp 11, .tmp 12]) rfl ?_); at_builtin; refine Kd.R_append_rows k54 (w0 := w) w.heap.size rfl (.tmp 11) (.tmp 12) 23 54 (.agg #[(.int .i64 0), (.int .i64 0), (.int .i64 0)]) 24 rfl Try.underlying23 info54 rfl (by decide) (by omega) (.slice none 0 0) ([] : List (S54)) l0 _ _ _ (fun _ => True) (fun _ => False) rfl rfl ?aO ?aR (fun _ _ h => h) (fun _ h => h.elim) ?aF ?aB ?aS ?aL ?_; (case aR => exact gC (HR0.out)); (case aB => exact (bl HB.out)); (case aF => exact (fun _ _ => trivial)); (case aO => exact ((Kd.R_nil _ _ _ _ (fun _ => True)))); (case aS => exact (below_size (bl HB.out))); (case aL => have := LMc5.out; omega); intro v119 w20 ho hb hg hat; rw [← Ny118.out] at ho; have n0_ := Aside0.mk (hb); have n1_ := Aside0.mk (ho); clear HB; have HB := n0_; have HO120 := n1_; clear n0_ n1_; clear ho hb hg hat; obtain ⟨Ao21, co21, eo21⟩ := Kd.R_slice HO120.out; subst eo21) | ((with_reducible refine gate_callee (f := 11) rfl ?_); refine goesL_ (some 28) rfl rfl Try.func11 (by kernel_rfl) rfl #[.int .i64 a1, .int .i64 (y118.length : Int)] rfl (by (try simp only [List.map_toArray, List.map_cons, List.map_nil]); first | done | rfl | (simp only [List.length_drop, List.length_take]; rfl)) ?_; (with_reducible refine (r01_Around.calls a1 (y118.length : Int) t126 _ A13.out).mono ?_); rintro e w' ⟨rfl, ⟨nd, rfl⟩⟩; refine ⟨_, rfl, ?_⟩; (try (rw [drewN_self w20]; generalize hq_ : World.drewN w20 _ = w20; have n0_ : Aside0 (Kd.R k54 54 w20 w.heap.size (fun _ => True) (.slice Ao21 y118.length co21) y118) := ⟨by rw [← hq_]; exact (gR (HO120.out))⟩; have n1_ : Aside0 (Below w.heap.size w w20) := ⟨by rw [← hq_]; exact (bl HB.out)⟩; clear HO120 HB hq_; have HO120 := n0_; have HB := n1_; clear n0_ n1_))) | ((with_reducible refine gate_callee (f := 11) rfl ?_); refine goesL_ (some 30) rfl rfl Try.func11 (by kernel_rfl) rfl #[.int .i64 a2, .int .i64 6] rfl (by (try simp only [List.map_toArray, List.map_cons, List.map_nil]); first | done | rfl | (simp only [List.length_drop, List.length_take]; rfl)) ?_; (with_reducible refine (r01_Around.calls a2 6 t127 _ A14.out).mono ?_); rintro e w' ⟨rfl, ⟨nd, rfl⟩⟩; refine ⟨_, rfl, ?_⟩; (try (rw [drewN_self w20]; generalize hq_ : World.drewN w20 _ = w20; have n0_ : Aside0 (Kd.R k54 54 w20 w.heap.size (fun _ => True) (.slice Ao21 y118.length co21) y118) := ⟨by rw [← hq_]; exact (gR (HO120.out))⟩; have n1_ : Aside0 (Below w.heap.size w w20) := ⟨by rw [← hq_]; exact (bl HB.out)⟩; clear HO120 HB hq_; have HO120 := n0_; have HB := n1_; clear n0_ n1_))) | ((with_reducible refine gate_callee (f := 11) rfl ?_); refine goesL_ (some 44) rfl rfl Try.func11 (by kernel_rfl) rfl #[.int .i64 a3, .int .i64 9] rfl (by (try simp only [List.map_toArray, List.map_cons, List.map_nil]); first | done | rfl | (simp only [List.length_drop, List.length_take]; rfl)) ?_; (with_reducible refine (r01_Around.calls a3 9 t128 _ A16.out).mono ?_); rintro e w' ⟨rfl, ⟨nd, rfl⟩⟩; refine ⟨_, rfl, ?_⟩; (try (rw [drewN_self w20]; generalize hq_ : World.drewN w20 _ = w20; have n0_ : Aside0 (Kd.R k54 54 w20 w.heap.size (fun _ => True) (.slice Ao21 y118.length co21) y118) := ⟨by rw [← hq_]; exact (gR (HO120.out))⟩; have n1_ : Aside0 (Below w.heap.size w w20) := ⟨by rw [← hq_]; exact (bl HB.out)⟩; clear HO120 HB hq_; have HO120 := n0_; have HB := n1_; clear n0_ n1_)); have p19 : 0 ≤ (t126 : Int) := of_decide_eq_true (by assumption); have q19 : (t126 : Int) < ((y118.length : Int) : Int) := of_decide_eq_true (by assumption); obtain ⟨go19, co19, eo19, gb19, gl19, cl19, HG19⟩ := Kd.R_form HO120.out (by omega); (first | cases eo19 | (injection eo19 with ea_ en_ ec_; (first | subst ea_ | (injection ea_ with ea_; subst ea_)); subst ec_; clear en_)); have GB19 := Aside0.mk gb19; have GG19 := Aside0.mk HG19; clear gb19 gl19 HG19; obtain ⟨ce19, hcl19, hM19, hcc19, hfr19⟩ := Kd.R_elem HO120.out z54 (t126 : Int) p19 q19; obtain rfl := k54_openM hM19; have hx19_0 : w20.cell? ⟨go19, (t126 : Int).toNat * 3, none⟩ = some (.int .i64 ((rd_T54 y118 t126).f0)) := hcc19 0 _ rfl; have hx19_1 : w20.cell? ⟨go19, (t126 : Int).toNat * 3 + 1, none⟩ = some (.int .i64 ((rd_T54 y118 t126).f1)) := hcc19 1 _ rfl; have hx19_2 : w20.cell? ⟨go19, (t126 : Int).toNat * 3 + 2, none⟩ = some (.int .i64 ((rd_T54 y118 t126).f2)) := hcc19 2 _ rfl; have hf19_0 : w20.frozen? ⟨go19, (t126 : Int).toNat * 3, none⟩ = false := hfr19 0; have hf19_1 : w20.frozen? ⟨go19, (t126 : Int).toNat * 3 + 1, none⟩ = false := hfr19 1; have hf19_2 : w20.frozen? ⟨go19, (t126 : Int).toNat * 3 + 2, none⟩ = false := hfr19 2; clear hcl19 hcc19 hfr19 hM19; replace p19 := eq_true p19; replace q19 := eq_true q19; have HX22 := Aside0.mk (show Kd.R k54 54 w20 w.heap.size (fun _ => True) (.slice (some ⟨go19, 0, none⟩) y118.length co21) y118 from (gR (HO120.out))); obtain ⟨ce22, hcl22, hM22, hcc22, hfr22⟩ := Kd.R_elem HX22.out z54 (t126 : Int) (of_decide_eq_true (by assumption)) (by have h_ : (t126 : Int) < ((y118.length : Int) : Int) := of_decide_eq_true (by assumption); first | exact h_ | (have e_ := (Kd.R_reads' HO120.out).1; omega) | simpa using h_); obtain rfl := k54_openM hM22; have HP22 := Kd.R_seg HX22.out (t126 : Int) (of_decide_eq_true (by assumption)) (by have h_ : (t126 : Int) < ((y118.length : Int) : Int) := of_decide_eq_true (by assumption); first | exact h_ | (have e_ := (Kd.R_reads' HO120.out).1; omega) | simpa using h_) (seg := [.int .i64 (wrap64 (t128 - 2))]) (j := 0) hcl22 hcc22 (show 1 ≤ 3 from by decide) (x' := (⟨wrap64 (t128 - 2), (rd_T54 y118 t126).f1, (rd_T54 y118 t126).f2⟩ : S54)) (k54_mkM _ _ _ (⟨wrap64 (t128 - 2), (rd_T54 y118 t126).f1, (rd_T54 y118 t126).f2⟩ : S54) ) (fun _ hk => hk); have hx22_0 := hcc22 0 _ rfl; (try simp only [show (k54).sz = 3 from rfl, Nat.mul_one, Nat.add_zero] at hx22_0); have hf22_0 := hfr22 0; (try simp only [show (k54).sz = 3 from rfl, Nat.mul_one, Nat.add_zero] at hf22_0); clear hcl22 hcc22 hfr22 hM22) | ((with_reducible refine gate_store (t := 3) (p := 47) rfl ?_); refine store_event (t := 3) (p := 47) (v := ?vo_w23) (w1 := (w20.setCell ⟨go19, (t126 : Int).toNat * 3, none⟩ (.int .i64 (wrap64 (t128 - 2))))) ?hg ?ho ?hn ?hr ?_; (case ho => rfl); (case hg => rfl); (case hn => rfl); (case hr => first | (go_simp; done) | (go_simp; rfl)); intro w23 hw; have hg : w20.grownBy w23 (some go19) := (by rw [hw]; exact HP22.2); have hp_ : Kd.R k54 54 w23 w.heap.size (fun _ => True) (.slice (some ⟨go19, 0, none⟩) y118.length co21) y129 := (by rw [hw, Ny129.out]; exact HP22.1); clear HP22; have n0_ := Aside0.mk (hp_); have n1_ := Aside0.mk ((by rw [hw]; exact below_set (HB.out) GB19.out : Below w.heap.size w w23)); clear HO120; clear HB; have HO120 := n0_; have HB := n1_; clear n0_ n1_; clear hg hw hp_))
    go_ret
    exact ⟨_, by first | rfl | (simp [errW_none, errW_some] <;> rfl) | (simp [*, errW_none, errW_some] <;> rfl), gR (HO120.out), bl HB.out⟩
   ·rw [if_neg c15] at H
    have c15b0 : (t127 == 0) = false := beq_eq_false_iff_ne.mpr c15
    have c15b1 : (t127 != 0) = true := bne_iff_ne.mpr c15
    by_cases c24 : t127 = 1
    ·rw [if_pos c24] at H
     have c24b0 : (t127 == 1) = true := beq_iff_eq.mpr c24
     have c24b1 : (t127 != 1) = false := bne_eq_false_iff_eq.mpr c24
     clear c24
     replace H := Option.bind_eq_some_iff.mp H
     obtain ⟨t130, A250, H⟩ := H
     replace H : (if 0 ≤ t126 then (if t126 < (y118.length : Int) then (some (y118.set (t126 : Int).toNat (⟨(rd_T54 y118 t126).f0, wrap64 (t130 - 2), (rd_T54 y118 t126).f2⟩ : S54))) else (none)) else (none)) = some r := H
     have A25 := Aside0.mk A250
     clear A250
     by_cases c26 : 0 ≤ t126
     case neg => rw [if_neg c26] at H; exact absurd H (by simp)
     rw [if_pos c26] at H
     have c26b0 : decide (0 ≤ t126) = true := decide_eq_true c26
     clear c26
     by_cases c27 : t126 < (y118.length : Int)
     case neg => rw [if_neg c27] at H; exact absurd H (by simp)
     rw [if_pos c27] at H
     have c27b0 : decide (t126 < (y118.length : Int)) = true := decide_eq_true c27
     clear c27
     obtain ⟨y131, hy131⟩ : ∃ y_ : List (S54), y_ = (y118.set (t126 : Int).toNat (⟨(rd_T54 y118 t126).f0, wrap64 (t130 - 2), (rd_T54 y118 t126).f2⟩ : S54)) := ⟨_, rfl⟩
     replace H : (some y131) = some r := by first | (rw [hy131]; with_reducible exact H) | (have H2_ := (Option.bind_some _ _).symm.trans H; rw [hy131]; with_reducible exact H2_) | (have H2_ := (Option.bind_some _ _).symm.trans H; with_reducible exact H2_) | with_reducible exact H | (rw [hy131]; exact H) | exact H
     have Ny131 := Aside0.mk hy131
     clear hy131
     obtain rfl := Option.some.inj H
     go_enter Try.func10, Try.ntmps10
     go_wp2_with (first | ((with_reducible refine gate_builtin (b := .append) (xs := #[.tmp 11, .tmp 12]) rfl ?_); at_builtin; refine Kd.R_append_rows k54 (w0 := w) w.heap.size rfl (.tmp 11) (.tmp 12) 23 54 (.agg #[(.int .i64 0), (.int .i64 0), (.int .i64 0)]) 24 rfl Try.underlying23 info54 rfl (by decide) (by omega) (.slice none 0 0) ([] : List (S54)) l0 _ _ _ (fun _ => True) (fun _ => False) rfl rfl ?aO ?aR (fun _ _ h => h) (fun _ h => h.elim) ?aF ?aB ?aS ?aL ?_; (case aR => exact gC (HR0.out)); (case aB => exact (bl HB.out)); (case aF => exact (fun _ _ => trivial)); (case aO => exact ((Kd.R_nil _ _ _ _ (fun _ => True)))); (case aS => exact (below_size (bl HB.out))); (case aL => have := LMc5.out; omega); intro v119 w29 ho hb hg hat; rw [← Ny118.out] at ho; have n0_ := Aside0.mk (hb); have n1_ := Aside0.mk (ho); clear HB; have HB := n0_; have HO120 := n1_; clear n0_ n1_; clear ho hb hg hat; obtain ⟨Ao30, co30, eo30⟩ := Kd.R_slice HO120.out; subst eo30) | ((with_reducible refine gate_callee (f := 11) rfl ?_); refine goesL_ (some 28) rfl rfl Try.func11 (by kernel_rfl) rfl #[.int .i64 a1, .int .i64 (y118.length : Int)] rfl (by (try simp only [List.map_toArray, List.map_cons, List.map_nil]); first | done | rfl | (simp only [List.length_drop, List.length_take]; rfl)) ?_; (with_reducible refine (r01_Around.calls a1 (y118.length : Int) t126 _ A13.out).mono ?_); rintro e w' ⟨rfl, ⟨nd, rfl⟩⟩; refine ⟨_, rfl, ?_⟩; (try (rw [drewN_self w29]; generalize hq_ : World.drewN w29 _ = w29; have n0_ : Aside0 (Kd.R k54 54 w29 w.heap.size (fun _ => True) (.slice Ao30 y118.length co30) y118) := ⟨by rw [← hq_]; exact (gR (HO120.out))⟩; have n1_ : Aside0 (Below w.heap.size w w29) := ⟨by rw [← hq_]; exact (bl HB.out)⟩; clear HO120 HB hq_; have HO120 := n0_; have HB := n1_; clear n0_ n1_))) | ((with_reducible refine gate_callee (f := 11) rfl ?_); refine goesL_ (some 30) rfl rfl Try.func11 (by kernel_rfl) rfl #[.int .i64 a2, .int .i64 6] rfl (by (try simp only [List.map_toArray, List.map_cons, List.map_nil]); first | done | rfl | (simp only [List.length_drop, List.length_take]; rfl)) ?_; (with_reducible refine (r01_Around.calls a2 6 t127 _ A14.out).mono ?_); rintro e w' ⟨rfl, ⟨nd, rfl⟩⟩; refine ⟨_, rfl, ?_⟩; (try (rw [drewN_self w29]; generalize hq_ : World.drewN w29 _ = w29; have n0_ : Aside0 (Kd.R k54 54 w29 w.heap.size (fun _ => True) (.slice Ao30 y118.length co30) y118) := ⟨by rw [← hq_]; exact (gR (HO120.out))⟩; have n1_ : Aside0 (Below w.heap.size w w29) := ⟨by rw [← hq_]; exact (bl HB.out)⟩; clear HO120 HB hq_; have HO120 := n0_; have HB := n1_; clear n0_ n1_))) | ((with_reducible refine gate_callee (f := 11) rfl ?_); refine goesL_ (some 53) rfl rfl Try.func11 (by kernel_rfl) rfl #[.int .i64 a3, .int .i64 9] rfl (by (try simp only [List.map_toArray, List.map_cons, List.map_nil]); first | done | rfl | (simp only [List.length_drop, List.length_take]; rfl)) ?_; (with_reducible refine (r01_Around.calls a3 9 t130 _ A25.out).mono ?_); rintro e w' ⟨rfl, ⟨nd, rfl⟩⟩; refine ⟨_, rfl, ?_⟩; (try (rw [drewN_self w29]; generalize hq_ : World.drewN w29 _ = w29; have n0_ : Aside0 (Kd.R k54 54 w29 w.heap.size (fun _ => True) (.slice Ao30 y118.length co30) y118) := ⟨by rw [← hq_]; exact (gR (HO120.out))⟩; have n1_ : Aside0 (Below w.heap.size w w29) := ⟨by rw [← hq_]; exact (bl HB.out)⟩; clear HO120 HB hq_; have HO120 := n0_; have HB := n1_; clear n0_ n1_)); have p28 : 0 ≤ (t126 : Int) := of_decide_eq_true (by assumption); have q28 : (t126 : Int) < ((y118.length : Int) : Int) := of_decide_eq_true (by assumption); obtain ⟨go28, co28, eo28, gb28, gl28, cl28, HG28⟩ := Kd.R_form HO120.out (by omega); (first | cases eo28 | (injection eo28 with ea_ en_ ec_; (first | subst ea_ | (injection ea_ with ea_; subst ea_)); subst ec_; clear en_)); have GB28 := Aside0.mk gb28; have GG28 := Aside0.mk HG28; clear gb28 gl28 HG28; obtain ⟨ce28, hcl28, hM28, hcc28, hfr28⟩ := Kd.R_elem HO120.out z54 (t126 : Int) p28 q28; obtain rfl := k54_openM hM28; have hx28_0 : w29.cell? ⟨go28, (t126 : Int).toNat * 3, none⟩ = some (.int .i64 ((rd_T54 y118 t126).f0)) := hcc28 0 _ rfl; have hx28_1 : w29.cell? ⟨go28, (t126 : Int).toNat * 3 + 1, none⟩ = some (.int .i64 ((rd_T54 y118 t126).f1)) := hcc28 1 _ rfl; have hx28_2 : w29.cell? ⟨go28, (t126 : Int).toNat * 3 + 2, none⟩ = some (.int .i64 ((rd_T54 y118 t126).f2)) := hcc28 2 _ rfl; have hf28_0 : w29.frozen? ⟨go28, (t126 : Int).toNat * 3, none⟩ = false := hfr28 0; have hf28_1 : w29.frozen? ⟨go28, (t126 : Int).toNat * 3 + 1, none⟩ = false := hfr28 1; have hf28_2 : w29.frozen? ⟨go28, (t126 : Int).toNat * 3 + 2, none⟩ = false := hfr28 2; clear hcl28 hcc28 hfr28 hM28; replace p28 := eq_true p28; replace q28 := eq_true q28; have HX31 := Aside0.mk (show Kd.R k54 54 w29 w.heap.size (fun _ => True) (.slice (some ⟨go28, 0, none⟩) y118.length co30) y118 from (gR (HO120.out))); obtain ⟨ce31, hcl31, hM31, hcc31, hfr31⟩ := Kd.R_elem HX31.out z54 (t126 : Int) (of_decide_eq_true (by assumption)) (by have h_ : (t126 : Int) < ((y118.length : Int) : Int) := of_decide_eq_true (by assumption); first | exact h_ | (have e_ := (Kd.R_reads' HO120.out).1; omega) | simpa using h_); obtain rfl := k54_openM hM31; have HP31 := Kd.R_seg HX31.out (t126 : Int) (of_decide_eq_true (by assumption)) (by have h_ : (t126 : Int) < ((y118.length : Int) : Int) := of_decide_eq_true (by assumption); first | exact h_ | (have e_ := (Kd.R_reads' HO120.out).1; omega) | simpa using h_) (seg := [.int .i64 (wrap64 (t130 - 2))]) (j := 1) hcl31 hcc31 (show 2 ≤ 3 from by decide) (x' := (⟨(rd_T54 y118 t126).f0, wrap64 (t130 - 2), (rd_T54 y118 t126).f2⟩ : S54)) (k54_mkM _ _ _ (⟨(rd_T54 y118 t126).f0, wrap64 (t130 - 2), (rd_T54 y118 t126).f2⟩ : S54) ) (fun _ hk => hk); have hx31_1 := hcc31 1 _ rfl; (try simp only [show (k54).sz = 3 from rfl, Nat.mul_one, Nat.add_zero] at hx31_1); have hf31_1 := hfr31 1; (try simp only [show (k54).sz = 3 from rfl, Nat.mul_one, Nat.add_zero] at hf31_1); clear hcl31 hcc31 hfr31 hM31) | ((with_reducible refine gate_store (t := 3) (p := 56) rfl ?_); refine store_event (t := 3) (p := 56) (v := ?vo_w32) (w1 := (w29.setCell ⟨go28, (t126 : Int).toNat * 3 + 1, none⟩ (.int .i64 (wrap64 (t130 - 2))))) ?hg ?ho ?hn ?hr ?_; (case ho => rfl); (case hg => rfl); (case hn => rfl); (case hr => first | (go_simp; done) | (go_simp; rfl)); intro w32 hw; have hg : w29.grownBy w32 (some go28) := (by rw [hw]; exact HP31.2); have hp_ : Kd.R k54 54 w32 w.heap.size (fun _ => True) (.slice (some ⟨go28, 0, none⟩) y118.length co30) y131 := (by rw [hw, Ny131.out]; exact HP31.1); clear HP31; have n0_ := Aside0.mk (hp_); have n1_ := Aside0.mk ((by rw [hw]; exact below_set (HB.out) GB28.out : Below w.heap.size w w32)); clear HO120; clear HB; have HO120 := n0_; have HB := n1_; clear n0_ n1_; clear hg hw hp_))
     go_ret
     exact ⟨_, by first | rfl | (simp [errW_none, errW_some] <;> rfl) | (simp [*, errW_none, errW_some] <;> rfl), gR (HO120.out), bl HB.out⟩
    ·rw [if_neg c24] at H
     have c24b0 : (t127 == 1) = false := beq_eq_false_iff_ne.mpr c24
     have c24b1 : (t127 != 1) = true := bne_iff_ne.mpr c24
     by_cases c33 : t127 = 2
     ·rw [if_pos c33] at H
      have c33b0 : (t127 == 2) = true := beq_iff_eq.mpr c33
      have c33b1 : (t127 != 2) = false := bne_eq_false_iff_eq.mpr c33
      clear c33
      obtain ⟨y132, hy132⟩ : ∃ y_ : List Int, y_ = (([(-2097152), 2097152, (-2097153), 2097153, 0, (-5)] : List Int)) := ⟨_, rfl⟩
      replace H : ((r01_Around.f a3 6).bind fun t135 => (if 0 ≤ t135 then (if t135 < (y132.length : Int) then (if 0 ≤ t126 then (if t126 < (y118.length : Int) then (some (y118.set (t126 : Int).toNat (⟨(rd_T54 y118 t126).f0, (rd_T54 y118 t126).f1, rd y132 t135⟩ : S54))) else (none)) else (none)) else (none)) else (none))) = some r := by first | (rw [hy132]; with_reducible exact H) | (have H2_ := (Option.bind_some _ _).symm.trans H; rw [hy132]; with_reducible exact H2_) | (have H2_ := (Option.bind_some _ _).symm.trans H; with_reducible exact H2_) | with_reducible exact H | (rw [hy132]; exact H) | exact H
      have Ny132 := Aside0.mk hy132
      clear hy132
      replace H := Option.bind_eq_some_iff.mp H
      obtain ⟨t135, A340, H⟩ := H
      replace H : (if 0 ≤ t135 then (if t135 < (y132.length : Int) then (if 0 ≤ t126 then (if t126 < (y118.length : Int) then (some (y118.set (t126 : Int).toNat (⟨(rd_T54 y118 t126).f0, (rd_T54 y118 t126).f1, rd y132 t135⟩ : S54))) else (none)) else (none)) else (none)) else (none)) = some r := H
      have A34 := Aside0.mk A340
      clear A340
      by_cases c35 : 0 ≤ t135
      case neg => rw [if_neg c35] at H; exact absurd H (by simp)
      rw [if_pos c35] at H
      have c35b0 : decide (0 ≤ t135) = true := decide_eq_true c35
      clear c35
      by_cases c36 : t135 < (y132.length : Int)
      case neg => rw [if_neg c36] at H; exact absurd H (by simp)
      rw [if_pos c36] at H
      have c36b0 : decide (t135 < (y132.length : Int)) = true := decide_eq_true c36
      clear c36
      by_cases c37 : 0 ≤ t126
      case neg => rw [if_neg c37] at H; exact absurd H (by simp)
      rw [if_pos c37] at H
      have c37b0 : decide (0 ≤ t126) = true := decide_eq_true c37
      clear c37
      by_cases c38 : t126 < (y118.length : Int)
      case neg => rw [if_neg c38] at H; exact absurd H (by simp)
      rw [if_pos c38] at H
      have c38b0 : decide (t126 < (y118.length : Int)) = true := decide_eq_true c38
      clear c38
      obtain ⟨y137, hy137⟩ : ∃ y_ : List (S54), y_ = (y118.set (t126 : Int).toNat (⟨(rd_T54 y118 t126).f0, (rd_T54 y118 t126).f1, rd y132 t135⟩ : S54)) := ⟨_, rfl⟩
      replace H : (some y137) = some r := by first | (rw [hy137]; with_reducible exact H) | (have H2_ := (Option.bind_some _ _).symm.trans H; rw [hy137]; with_reducible exact H2_) | (have H2_ := (Option.bind_some _ _).symm.trans H; with_reducible exact H2_) | with_reducible exact H | (rw [hy137]; exact H) | exact H
      have Ny137 := Aside0.mk hy137
      clear hy137
      obtain rfl := Option.some.inj H
      go_enter Try.func10, Try.ntmps10
      go_wp2_with (first | ((with_reducible refine gate_builtin (b := .append) (xs := #[.tmp 11, .tmp 12]) rfl ?_); at_builtin; refine Kd.R_append_rows k54 (w0 := w) w.heap.size rfl (.tmp 11) (.tmp 12) 23 54 (.agg #[(.int .i64 0), (.int .i64 0), (.int .i64 0)]) 24 rfl Try.underlying23 info54 rfl (by decide) (by omega) (.slice none 0 0) ([] : List (S54)) l0 _ _ _ (fun _ => True) (fun _ => False) rfl rfl ?aO ?aR (fun _ _ h => h) (fun _ h => h.elim) ?aF ?aB ?aS ?aL ?_; (case aR => exact gC (HR0.out)); (case aB => exact (bl HB.out)); (case aF => exact (fun _ _ => trivial)); (case aO => exact ((Kd.R_nil _ _ _ _ (fun _ => True)))); (case aS => exact (below_size (bl HB.out))); (case aL => have := LMc5.out; omega); intro v119 w40 ho hb hg hat; rw [← Ny118.out] at ho; have n0_ := Aside0.mk (hb); have n1_ := Aside0.mk (ho); clear HB; have HB := n0_; have HO120 := n1_; clear n0_ n1_; clear ho hb hg hat; obtain ⟨Ao41, co41, eo41⟩ := Kd.R_slice HO120.out; subst eo41) | ((with_reducible refine gate_callee (f := 11) rfl ?_); refine goesL_ (some 28) rfl rfl Try.func11 (by kernel_rfl) rfl #[.int .i64 a1, .int .i64 (y118.length : Int)] rfl (by (try simp only [List.map_toArray, List.map_cons, List.map_nil]); first | done | rfl | (simp only [List.length_drop, List.length_take]; rfl)) ?_; (with_reducible refine (r01_Around.calls a1 (y118.length : Int) t126 _ A13.out).mono ?_); rintro e w' ⟨rfl, ⟨nd, rfl⟩⟩; refine ⟨_, rfl, ?_⟩; (try (rw [drewN_self w40]; generalize hq_ : World.drewN w40 _ = w40; have n0_ : Aside0 (Kd.R k54 54 w40 w.heap.size (fun _ => True) (.slice Ao41 y118.length co41) y118) := ⟨by rw [← hq_]; exact (gR (HO120.out))⟩; have n1_ : Aside0 (Below w.heap.size w w40) := ⟨by rw [← hq_]; exact (bl HB.out)⟩; clear HO120 HB hq_; have HO120 := n0_; have HB := n1_; clear n0_ n1_))) | ((with_reducible refine gate_callee (f := 11) rfl ?_); refine goesL_ (some 30) rfl rfl Try.func11 (by kernel_rfl) rfl #[.int .i64 a2, .int .i64 6] rfl (by (try simp only [List.map_toArray, List.map_cons, List.map_nil]); first | done | rfl | (simp only [List.length_drop, List.length_take]; rfl)) ?_; (with_reducible refine (r01_Around.calls a2 6 t127 _ A14.out).mono ?_); rintro e w' ⟨rfl, ⟨nd, rfl⟩⟩; refine ⟨_, rfl, ?_⟩; (try (rw [drewN_self w40]; generalize hq_ : World.drewN w40 _ = w40; have n0_ : Aside0 (Kd.R k54 54 w40 w.heap.size (fun _ => True) (.slice Ao41 y118.length co41) y118) := ⟨by rw [← hq_]; exact (gR (HO120.out))⟩; have n1_ : Aside0 (Below w.heap.size w w40) := ⟨by rw [← hq_]; exact (bl HB.out)⟩; clear HO120 HB hq_; have HO120 := n0_; have HB := n1_; clear n0_ n1_))) | ((with_reducible refine gate_dst (N := 61) rfl ?_); refine Kd.R_lit (Kd.int .i64) _ 3 ?hg (N := 61) ?hd (xs := ([(-2097152), 2097152, (-2097153), 2097153, 0, (-5)] : List Int)) (inner := [.int .i64 (-2097152), .int .i64 2097152, .int .i64 (-2097153), .int .i64 2097153, .int .i64 0, .int .i64 (-5)]) (ok := fun _ => True) (okp := fun _ => True) ?hr ?hp (fun _ hk => hk) trivial (Below.refl _ _) (Nat.le_refl _) (by simp) ?_; (case hd => rfl); (case hg => rfl); (case hr => first | (go_simp; done) | (go_simp; rfl)); (case hp => exact (Reps.one (show Kd.M (Kd.int .i64) _ _ _ (-2097152) [.int .i64 (-2097152)] from rfl) (Reps.one (show Kd.M (Kd.int .i64) _ _ _ 2097152 [.int .i64 2097152] from rfl) (Reps.one (show Kd.M (Kd.int .i64) _ _ _ (-2097153) [.int .i64 (-2097153)] from rfl) (Reps.one (show Kd.M (Kd.int .i64) _ _ _ 2097153 [.int .i64 2097153] from rfl) (Reps.one (show Kd.M (Kd.int .i64) _ _ _ 0 [.int .i64 0] from rfl) (Reps.one (show Kd.M (Kd.int .i64) _ _ _ (-5) [.int .i64 (-5)] from rfl) (Reps.none _ _)))))))); intro v133 w42 ho43 hb hg_ hnew_; clear hg_ hnew_; (first | rw [← Ny132.out] at ho43 | (simp only [Int.reduceToNat] at ho43; rw [← Ny132.out] at ho43)); have n0_ := Aside0.mk (Kd.R_below (gR (HO120.out)) hb); have n1_ := Aside0.mk (Kd.R_lower ho43 (below_size (bl HB.out))); have n2_ := Aside0.mk (below_step (bl HB.out) hb); clear HO120; clear HB; have HO120 := n0_; have HO134 := n1_; have HB := n2_; clear n0_ n1_ n2_; clear hb ho43) | ((with_reducible refine gate_callee (f := 11) rfl ?_); refine goesL_ (some 63) rfl rfl Try.func11 (by kernel_rfl) rfl #[.int .i64 a3, .int .i64 6] rfl (by (try simp only [List.map_toArray, List.map_cons, List.map_nil]); first | done | rfl | (simp only [List.length_drop, List.length_take]; rfl)) ?_; (with_reducible refine (r01_Around.calls a3 6 t135 _ A34.out).mono ?_); rintro e w' ⟨rfl, ⟨nd, rfl⟩⟩; refine ⟨_, rfl, ?_⟩; (try (rw [drewN_self w42]; generalize hq_ : World.drewN w42 _ = w42; have n0_ : Aside0 (Kd.R k54 54 w42 w.heap.size (fun _ => True) (.slice Ao41 y118.length co41) y118) := ⟨by rw [← hq_]; exact (gR (HO120.out))⟩; have n1_ : Aside0 (Kd.R (Kd.int .i64) 3 w42 w.heap.size (fun _ => True) v133 y132) := ⟨by rw [← hq_]; exact (gR (HO134.out))⟩; have n2_ : Aside0 (Below w.heap.size w w42) := ⟨by rw [← hq_]; exact (bl HB.out)⟩; clear HO120 HO134 HB hq_; have HO120 := n0_; have HO134 := n1_; have HB := n2_; clear n0_ n1_ n2_)); obtain ⟨Ao44, co44, eo44⟩ := Kd.R_slice HO134.out; subst eo44; have p136 : 0 ≤ (t135 : Int) := of_decide_eq_true (by assumption); have q136 : t135 < (y132.length : Int) := of_decide_eq_true (by assumption); obtain ⟨ad136, e136, hx136_0⟩ := Kd.at_int (Kd.R_reads' HO134.out).2.2 t135 p136 q136; cases e136; replace p136 := eq_true p136; replace q136 := eq_true q136; have p39 : 0 ≤ (t126 : Int) := of_decide_eq_true (by assumption); have q39 : (t126 : Int) < ((y118.length : Int) : Int) := of_decide_eq_true (by assumption); obtain ⟨go39, co39, eo39, gb39, gl39, cl39, HG39⟩ := Kd.R_form HO120.out (by omega); (first | cases eo39 | (injection eo39 with ea_ en_ ec_; (first | subst ea_ | (injection ea_ with ea_; subst ea_)); subst ec_; clear en_)); have GB39 := Aside0.mk gb39; have GG39 := Aside0.mk HG39; clear gb39 gl39 HG39; obtain ⟨ce39, hcl39, hM39, hcc39, hfr39⟩ := Kd.R_elem HO120.out z54 (t126 : Int) p39 q39; obtain rfl := k54_openM hM39; have hx39_0 : w42.cell? ⟨go39, (t126 : Int).toNat * 3, none⟩ = some (.int .i64 ((rd_T54 y118 t126).f0)) := hcc39 0 _ rfl; have hx39_1 : w42.cell? ⟨go39, (t126 : Int).toNat * 3 + 1, none⟩ = some (.int .i64 ((rd_T54 y118 t126).f1)) := hcc39 1 _ rfl; have hx39_2 : w42.cell? ⟨go39, (t126 : Int).toNat * 3 + 2, none⟩ = some (.int .i64 ((rd_T54 y118 t126).f2)) := hcc39 2 _ rfl; have hf39_0 : w42.frozen? ⟨go39, (t126 : Int).toNat * 3, none⟩ = false := hfr39 0; have hf39_1 : w42.frozen? ⟨go39, (t126 : Int).toNat * 3 + 1, none⟩ = false := hfr39 1; have hf39_2 : w42.frozen? ⟨go39, (t126 : Int).toNat * 3 + 2, none⟩ = false := hfr39 2; clear hcl39 hcc39 hfr39 hM39; replace p39 := eq_true p39; replace q39 := eq_true q39; have HX45 := Aside0.mk (show Kd.R k54 54 w42 w.heap.size (fun _ => True) (.slice (some ⟨go39, 0, none⟩) y118.length co41) y118 from (gR (HO120.out))); obtain ⟨ce45, hcl45, hM45, hcc45, hfr45⟩ := Kd.R_elem HX45.out z54 (t126 : Int) (of_decide_eq_true (by assumption)) (by have h_ : (t126 : Int) < ((y118.length : Int) : Int) := of_decide_eq_true (by assumption); first | exact h_ | (have e_ := (Kd.R_reads' HO120.out).1; omega) | simpa using h_); obtain rfl := k54_openM hM45; have HP45 := Kd.R_seg HX45.out (t126 : Int) (of_decide_eq_true (by assumption)) (by have h_ : (t126 : Int) < ((y118.length : Int) : Int) := of_decide_eq_true (by assumption); first | exact h_ | (have e_ := (Kd.R_reads' HO120.out).1; omega) | simpa using h_) (seg := [.int .i64 (rd y132 t135)]) (j := 2) hcl45 hcc45 (show 3 ≤ 3 from by decide) (x' := (⟨(rd_T54 y118 t126).f0, (rd_T54 y118 t126).f1, rd y132 t135⟩ : S54)) (k54_mkM _ _ _ (⟨(rd_T54 y118 t126).f0, (rd_T54 y118 t126).f1, rd y132 t135⟩ : S54) ) (fun _ hk => hk); have hx45_2 := hcc45 2 _ rfl; (try simp only [show (k54).sz = 3 from rfl, Nat.mul_one, Nat.add_zero] at hx45_2); have hf45_2 := hfr45 2; (try simp only [show (k54).sz = 3 from rfl, Nat.mul_one, Nat.add_zero] at hf45_2); clear hcl45 hcc45 hfr45 hM45) | ((with_reducible refine gate_store (t := 3) (p := 67) rfl ?_); refine store_event (t := 3) (p := 67) (v := ?vo_w46) (w1 := (w42.setCell ⟨go39, (t126 : Int).toNat * 3 + 2, none⟩ (.int .i64 (rd y132 t135)))) ?hg ?ho ?hn ?hr ?_; (case ho => rfl); (case hg => rfl); (case hn => rfl); (case hr => first | (go_simp; done) | (go_simp; rfl)); intro w46 hw; have hg : w42.grownBy w46 (some go39) := (by rw [hw]; exact HP45.2); have hp_ : Kd.R k54 54 w46 w.heap.size (fun _ => True) (.slice (some ⟨go39, 0, none⟩) y118.length co41) y137 := (by rw [hw, Ny137.out]; exact HP45.1); clear HP45; have n0_ := Aside0.mk (hp_); have n1_ := Aside0.mk (Kd.R_over' (v := (.slice (some ⟨go39, 0, none⟩) y118.length co41)) (gR (HO134.out)) (Kd.R_typed HO120.out) (by decide) hg); have n2_ := Aside0.mk ((by rw [hw]; exact below_set (HB.out) GB39.out : Below w.heap.size w w46)); clear HO120; clear HO134; clear HB; have HO120 := n0_; have HO134 := n1_; have HB := n2_; clear n0_ n1_ n2_; clear hg hw hp_))
      go_ret
      exact ⟨_, by first | rfl | (simp [errW_none, errW_some] <;> rfl) | (simp [*, errW_none, errW_some] <;> rfl), gR (HO120.out), bl HB.out⟩
     ·rw [if_neg c33] at H
      have c33b0 : (t127 == 2) = false := beq_eq_false_iff_ne.mpr c33
      have c33b1 : (t127 != 2) = true := bne_iff_ne.mpr c33
      by_cases c47 : t127 = 3
      ·rw [if_pos c47] at H
       have c47b0 : (t127 == 3) = true := beq_iff_eq.mpr c47
       have c47b1 : (t127 != 3) = false := bne_eq_false_iff_eq.mpr c47
       clear c47
       by_cases c48 : 0 ≤ t126
       case neg => rw [if_neg c48] at H; exact absurd H (by simp)
       rw [if_pos c48] at H
       have c48b0 : decide (0 ≤ t126) = true := decide_eq_true c48
       clear c48
       by_cases c49 : t126 < (y118.length : Int)
       case neg => rw [if_neg c49] at H; exact absurd H (by simp)
       rw [if_pos c49] at H
       have c49b0 : decide (t126 < (y118.length : Int)) = true := decide_eq_true c49
       clear c49
       by_cases c50 : y118.length < 5864062014805
       case neg => rw [if_neg c50] at H; exact absurd H (by simp)
       rw [if_pos c50] at H
       have LMc50 := Aside0.mk c50
       clear c50
       obtain ⟨y139, hy139⟩ : ∃ y_ : List (S54), y_ = (y118 ++ [(⟨(rd_T54 y118 t126).f0, (rd_T54 y118 t126).f1, (rd_T54 y118 t126).f2⟩ : S54)]) := ⟨_, rfl⟩
       replace H : (some y139) = some r := by first | (rw [hy139]; with_reducible exact H) | (have H2_ := (Option.bind_some _ _).symm.trans H; rw [hy139]; with_reducible exact H2_) | (have H2_ := (Option.bind_some _ _).symm.trans H; with_reducible exact H2_) | with_reducible exact H | (rw [hy139]; exact H) | exact H
       have Ny139 := Aside0.mk hy139
       clear hy139
       obtain rfl := Option.some.inj H
       go_enter Try.func10, Try.ntmps10
       go_wp2_with (first | ((with_reducible refine gate_builtin (b := .append) (xs := #[.tmp 11, .tmp 12]) rfl ?_); at_builtin; refine Kd.R_append_rows k54 (w0 := w) w.heap.size rfl (.tmp 11) (.tmp 12) 23 54 (.agg #[(.int .i64 0), (.int .i64 0), (.int .i64 0)]) 24 rfl Try.underlying23 info54 rfl (by decide) (by omega) (.slice none 0 0) ([] : List (S54)) l0 _ _ _ (fun _ => True) (fun _ => False) rfl rfl ?aO ?aR (fun _ _ h => h) (fun _ h => h.elim) ?aF ?aB ?aS ?aL ?_; (case aR => exact gC (HR0.out)); (case aB => exact (bl HB.out)); (case aF => exact (fun _ _ => trivial)); (case aO => exact ((Kd.R_nil _ _ _ _ (fun _ => True)))); (case aS => exact (below_size (bl HB.out))); (case aL => have := LMc5.out; omega); intro v119 w51 ho hb hg hat; rw [← Ny118.out] at ho; have n0_ := Aside0.mk (hb); have n1_ := Aside0.mk (ho); clear HB; have HB := n0_; have HO120 := n1_; clear n0_ n1_; clear ho hb hg hat; obtain ⟨Ao52, co52, eo52⟩ := Kd.R_slice HO120.out; subst eo52) | ((with_reducible refine gate_callee (f := 11) rfl ?_); refine goesL_ (some 28) rfl rfl Try.func11 (by kernel_rfl) rfl #[.int .i64 a1, .int .i64 (y118.length : Int)] rfl (by (try simp only [List.map_toArray, List.map_cons, List.map_nil]); first | done | rfl | (simp only [List.length_drop, List.length_take]; rfl)) ?_; (with_reducible refine (r01_Around.calls a1 (y118.length : Int) t126 _ A13.out).mono ?_); rintro e w' ⟨rfl, ⟨nd, rfl⟩⟩; refine ⟨_, rfl, ?_⟩) | ((with_reducible refine gate_callee (f := 11) rfl ?_); refine goesL_ (some 30) rfl rfl Try.func11 (by kernel_rfl) rfl #[.int .i64 a2, .int .i64 6] rfl (by (try simp only [List.map_toArray, List.map_cons, List.map_nil]); first | done | rfl | (simp only [List.length_drop, List.length_take]; rfl)) ?_; (with_reducible refine (r01_Around.calls a2 6 t127 _ A14.out).mono ?_); rintro e w' ⟨rfl, ⟨nd, rfl⟩⟩; refine ⟨_, rfl, ?_⟩; have p138 : 0 ≤ (t126 : Int) := of_decide_eq_true (by assumption); have q138 : t126 < (y118.length : Int) := of_decide_eq_true (by assumption); obtain ⟨ad138, e138, hx138_0, hx138_1, hx138_2⟩ := at_T54 (Kd.R_reads' HO120.out).2.2 t126 p138 q138; cases e138; replace p138 := eq_true p138; replace q138 := eq_true q138) | ((with_reducible refine gate_builtin (b := .append) (xs := #[.tmp 70, .tmp 75]) rfl ?_); at_builtin; refine Kd.R_append k54 (w0 := w) w.heap.size rfl (.tmp 70) (.tmp 75) 23 54 (.agg #[(.int .i64 0), (.int .i64 0), (.int .i64 0)]) 24 rfl Try.underlying23 info54 rfl (by decide) (by omega) (.slice (some ad138) y118.length co52) y118 (⟨(rd_T54 y118 t126).f0, (rd_T54 y118 t126).f1, (rd_T54 y118 t126).f2⟩ : S54) [.int .i64 ((rd_T54 y118 t126).f0), .int .i64 ((rd_T54 y118 t126).f1), .int .i64 ((rd_T54 y118 t126).f2)] (fun _ => True) (fun _ => False) rfl rfl ?aP (fun _ hk => hk.elim) ?aF ?aO ?aB ?aS ?aL ?_; (case aP => exact k54_mkM _ _ _ (⟨(rd_T54 y118 t126).f0, (rd_T54 y118 t126).f1, (rd_T54 y118 t126).f2⟩ : S54)); (case aB => exact (bl HB.out)); (case aF => exact (fun _ _ => trivial)); (case aO => exact (gR (HO120.out))); (case aS => exact (below_size (bl HB.out))); (case aL => have := LMc50.out; omega); intro v140 w53 ho hb hg hat; rw [← Ny139.out] at ho; have n0_ := Aside0.mk (hb); have n1_ := Aside0.mk (ho); clear HB; clear HO120; have HB := n0_; have HO141 := n1_; clear n0_ n1_; clear ho hb hg hat))
       go_ret
       exact ⟨_, by first | rfl | (simp [errW_none, errW_some] <;> rfl) | (simp [*, errW_none, errW_some] <;> rfl), gR (HO141.out), bl HB.out⟩
      ·rw [if_neg c47] at H
       have c47b0 : (t127 == 3) = false := beq_eq_false_iff_ne.mpr c47
       have c47b1 : (t127 != 3) = true := bne_iff_ne.mpr c47
       by_cases c54 : t127 = 4
       ·rw [if_pos c54] at H
        have c54b0 : (t127 == 4) = true := beq_iff_eq.mpr c54
        have c54b1 : (t127 != 4) = false := bne_eq_false_iff_eq.mpr c54
        clear c54
        have H' := Aside0.mk H
        clear H
        go_enter Try.func10, Try.ntmps10
        go_wp2_with (first | ((with_reducible refine gate_builtin (b := .append) (xs := #[.tmp 11, .tmp 12]) rfl ?_); at_builtin; refine Kd.R_append_rows k54 (w0 := w) w.heap.size rfl (.tmp 11) (.tmp 12) 23 54 (.agg #[(.int .i64 0), (.int .i64 0), (.int .i64 0)]) 24 rfl Try.underlying23 info54 rfl (by decide) (by omega) (.slice none 0 0) ([] : List (S54)) l0 _ _ _ (fun _ => True) (fun _ => False) rfl rfl ?aO ?aR (fun _ _ h => h) (fun _ h => h.elim) ?aF ?aB ?aS ?aL ?_; (case aR => exact gC (HR0.out)); (case aB => exact (bl HB.out)); (case aF => exact (fun _ _ => trivial)); (case aO => exact ((Kd.R_nil _ _ _ _ (fun _ => True)))); (case aS => exact (below_size (bl HB.out))); (case aL => have := LMc5.out; omega); intro v119 w55 ho hb hg hat; rw [← Ny118.out] at ho; have n0_ := Aside0.mk (hb); have n1_ := Aside0.mk (ho); clear HB; have HB := n0_; have HO120 := n1_; clear n0_ n1_; clear ho hb hg hat; obtain ⟨Ao56, co56, eo56⟩ := Kd.R_slice HO120.out; subst eo56) | ((with_reducible refine gate_callee (f := 11) rfl ?_); refine goesL_ (some 28) rfl rfl Try.func11 (by kernel_rfl) rfl #[.int .i64 a1, .int .i64 (y118.length : Int)] rfl (by (try simp only [List.map_toArray, List.map_cons, List.map_nil]); first | done | rfl | (simp only [List.length_drop, List.length_take]; rfl)) ?_; (with_reducible refine (r01_Around.calls a1 (y118.length : Int) t126 _ A13.out).mono ?_); rintro e w' ⟨rfl, ⟨nd, rfl⟩⟩; refine ⟨_, rfl, ?_⟩) | ((with_reducible refine gate_callee (f := 11) rfl ?_); refine goesL_ (some 30) rfl rfl Try.func11 (by kernel_rfl) rfl #[.int .i64 a2, .int .i64 6] rfl (by (try simp only [List.map_toArray, List.map_cons, List.map_nil]); first | done | rfl | (simp only [List.length_drop, List.length_take]; rfl)) ?_; (with_reducible refine (r01_Around.calls a2 6 t127 _ A14.out).mono ?_); rintro e w' ⟨rfl, ⟨nd, rfl⟩⟩; refine ⟨_, rfl, ?_⟩))
        go_loopg [9] k (fun kq v9 w' => ∃ (x9_1 : List (S54)), Aside0 (r14_Bent.l0 kq a3 x9_1 t126 = some r) ∧ Aside0 (kq ≤ k) ∧ Aside0 (Kd.R k54 54 w' w.heap.size (fun _ => True) v9 x9_1) ∧ Aside0 (Below w.heap.size w w'))
        case atStart => exact ⟨(y118), H', ⟨Nat.le_refl _⟩, ⟨gR (HO120.out)⟩, ⟨bl HB.out⟩⟩
        case round =>
         clear H'
         try clear c1
         try clear p1
         try clear q1
         try clear hx1
         try clear c2
         try clear p2
         try clear q2
         try clear hx2
         try clear c3
         try clear p3
         try clear q3
         try clear hx3
         try clear c4
         try clear hx4
         try clear hf4
         try clear c5
         try clear c6
         try clear c6b0
         try clear c6b1
         try clear c6b2
         try clear p6
         try clear c10
         try clear c11
         try clear p13
         try clear q13
         try clear hx13
         try clear c15
         try clear c15b0
         try clear c15b1
         try clear c17
         try clear c17b0
         try clear c18
         try clear c18b0
         try clear c19
         try clear p19
         try clear q19
         try clear hx19
         try clear hf19
         try clear c22
         try clear hx22
         try clear hf22
         try clear c24
         try clear c24b0
         try clear c24b1
         try clear c26
         try clear c26b0
         try clear c27
         try clear c27b0
         try clear c28
         try clear p28
         try clear q28
         try clear hx28
         try clear hf28
         try clear c31
         try clear hx31
         try clear hf31
         try clear c33
         try clear c33b0
         try clear c33b1
         try clear c35
         try clear c35b0
         try clear c36
         try clear c36b0
         try clear c37
         try clear c37b0
         try clear c38
         try clear c38b0
         try clear c39
         try clear p39
         try clear q39
         try clear hx39
         try clear hf39
         try clear c45
         try clear hx45
         try clear hf45
         try clear c47
         try clear c47b0
         try clear c47b1
         try clear c48
         try clear c48b0
         try clear c49
         try clear c49b0
         try clear c50
         try clear c54
         try clear c54b0
         try clear c54b1
         try clear hx136_0
         try clear hx138_0
         try clear hx138_1
         try clear hx138_2
         try clear hx19_0
         try clear hx19_1
         try clear hx19_2
         try clear hx22_0
         try clear hx28_0
         try clear hx28_1
         try clear hx28_2
         try clear hx31_1
         try clear hx39_0
         try clear hx39_1
         try clear hx39_2
         try clear hx45_2
         try clear p136
         try clear p138
         try clear p19
         try clear p28
         try clear p39
         try clear q136
         try clear q138
         try clear q19
         try clear q28
         try clear q39
         obtain ⟨x9_1, HA, HK1, HO_9, HB⟩ := hrel
         cases gk with
         | zero => exact absurd HA.out (by simp [r14_Bent.l0])
         | succ k1 =>
          have H := HA.out
          clear HA
          simp only [r14_Bent.l0] at H
          replace H := Option.bind_eq_some_iff.mp H
          obtain ⟨t142, A570, H⟩ := H
          replace H : (if (x9_1.length : Int) < (wrap64 (63 + t142)) then (if 0 ≤ t126 then (if t126 < (x9_1.length : Int) then (if x9_1.length < 5864062014805 then (r14_Bent.l0 k1 a3 (x9_1 ++ [(⟨(rd_T54 x9_1 t126).f0, (rd_T54 x9_1 t126).f1, (rd_T54 x9_1 t126).f2⟩ : S54)]) t126) else (none)) else (none)) else (none)) else (some x9_1)) = some r := H
          have A57 := Aside0.mk A570
          clear A570
          by_cases c58 : (x9_1.length : Int) < (wrap64 (63 + t142))
          ·rw [if_pos c58] at H
           have c58b0 : decide ((x9_1.length : Int) < (wrap64 (63 + t142))) = true := decide_eq_true c58
           clear c58
           by_cases c59 : 0 ≤ t126
           case neg => rw [if_neg c59] at H; exact absurd H (by simp)
           rw [if_pos c59] at H
           have c59b0 : decide (0 ≤ t126) = true := decide_eq_true c59
           clear c59
           by_cases c60 : t126 < (x9_1.length : Int)
           case neg => rw [if_neg c60] at H; exact absurd H (by simp)
           rw [if_pos c60] at H
           have c60b0 : decide (t126 < (x9_1.length : Int)) = true := decide_eq_true c60
           clear c60
           by_cases c61 : x9_1.length < 5864062014805
           case neg => rw [if_neg c61] at H; exact absurd H (by simp)
           rw [if_pos c61] at H
           have LMc61 := Aside0.mk c61
           clear c61
           obtain ⟨y144, hy144⟩ : ∃ y_ : List (S54), y_ = (x9_1 ++ [(⟨(rd_T54 x9_1 t126).f0, (rd_T54 x9_1 t126).f1, (rd_T54 x9_1 t126).f2⟩ : S54)]) := ⟨_, rfl⟩
           replace H : (r14_Bent.l0 k1 a3 y144 t126) = some r := by first | (rw [hy144]; with_reducible exact H) | (have H2_ := (Option.bind_some _ _).symm.trans H; rw [hy144]; with_reducible exact H2_) | (have H2_ := (Option.bind_some _ _).symm.trans H; with_reducible exact H2_) | with_reducible exact H | (rw [hy144]; exact H) | exact H
           have Ny144 := Aside0.mk hy144
           clear hy144
           have H' := Aside0.mk H
           clear H
           obtain ⟨Ao62, co62, eo62⟩ := Kd.R_slice HO_9.out
           subst eo62
           go_wp2_with (first | ((with_reducible refine gate_callee (f := 11) rfl ?_); refine goesL_ (some 82) rfl rfl Try.func11 (by kernel_rfl) rfl #[.int .i64 a3, .int .i64 3] rfl (by (try simp only [List.map_toArray, List.map_cons, List.map_nil]); first | done | rfl | (simp only [List.length_drop, List.length_take]; rfl)) ?_; (with_reducible refine (r01_Around.calls a3 3 t142 _ A57.out).mono ?_); rintro e w' ⟨rfl, ⟨nd, rfl⟩⟩; refine ⟨_, rfl, ?_⟩; have p143 : 0 ≤ (t126 : Int) := of_decide_eq_true (by assumption); have q143 : t126 < (x9_1.length : Int) := of_decide_eq_true (by assumption); obtain ⟨ad143, e143, hx143_0, hx143_1, hx143_2⟩ := at_T54 (Kd.R_reads' HO_9.out).2.2 t126 p143 q143; cases e143; replace p143 := eq_true p143; replace q143 := eq_true q143) | ((with_reducible refine gate_builtin (b := .append) (xs := #[.tmp 85, .tmp 90]) rfl ?_); at_builtin; refine Kd.R_append k54 (w0 := w) w.heap.size rfl (.tmp 85) (.tmp 90) 23 54 (.agg #[(.int .i64 0), (.int .i64 0), (.int .i64 0)]) 24 rfl Try.underlying23 info54 rfl (by decide) (by omega) (.slice (some ad143) x9_1.length co62) x9_1 (⟨(rd_T54 x9_1 t126).f0, (rd_T54 x9_1 t126).f1, (rd_T54 x9_1 t126).f2⟩ : S54) [.int .i64 ((rd_T54 x9_1 t126).f0), .int .i64 ((rd_T54 x9_1 t126).f1), .int .i64 ((rd_T54 x9_1 t126).f2)] (fun _ => True) (fun _ => False) rfl rfl ?aP (fun _ hk => hk.elim) ?aF ?aO ?aB ?aS ?aL ?_; (case aP => exact k54_mkM _ _ _ (⟨(rd_T54 x9_1 t126).f0, (rd_T54 x9_1 t126).f1, (rd_T54 x9_1 t126).f2⟩ : S54)); (case aB => exact (bl HB.out)); (case aF => exact (fun _ _ => trivial)); (case aO => exact (gR (HO_9.out))); (case aS => exact (below_size (bl HB.out))); (case aL => have := LMc61.out; omega); intro v145 w63 ho hb hg hat; rw [← Ny144.out] at ho; have n0_ := Aside0.mk (hb); have n1_ := Aside0.mk (ho); clear HB; clear HO_9; have HB := n0_; have HO146 := n1_; clear n0_ n1_; clear ho hb hg hat))
           go_roundg k1
           case measure => have := HK1.out; omega
           case rel => exact ⟨(y144), H', ⟨by have := HK1.out; omega⟩, ⟨gR (HO146.out)⟩, ⟨bl HB.out⟩⟩
          ·rw [if_neg c58] at H
           have c58b0 : decide ((x9_1.length : Int) < (wrap64 (63 + t142))) = false := decide_eq_false c58
           clear c58
           obtain rfl := Option.some.inj H
           obtain ⟨Ao64, co64, eo64⟩ := Kd.R_slice HO_9.out
           subst eo64
           go_wp2_with (first | ((with_reducible refine gate_callee (f := 11) rfl ?_); refine goesL_ (some 82) rfl rfl Try.func11 (by kernel_rfl) rfl #[.int .i64 a3, .int .i64 3] rfl (by (try simp only [List.map_toArray, List.map_cons, List.map_nil]); first | done | rfl | (simp only [List.length_drop, List.length_take]; rfl)) ?_; (with_reducible refine (r01_Around.calls a3 3 t142 _ A57.out).mono ?_); rintro e w' ⟨rfl, ⟨nd, rfl⟩⟩; refine ⟨_, rfl, ?_⟩))
           go_ret
           exact ⟨_, by first | rfl | (simp [errW_none, errW_some] <;> rfl) | (simp [*, errW_none, errW_some] <;> rfl), gR (HO_9.out), bl HB.out⟩
       ·rw [if_neg c54] at H
        have c54b0 : (t127 == 4) = false := beq_eq_false_iff_ne.mpr c54
        have c54b1 : (t127 != 4) = true := bne_iff_ne.mpr c54
        by_cases c65 : 0 ≤ t126
        case neg => rw [if_neg c65] at H; exact absurd H (by simp)
        rw [if_pos c65] at H
        have c65b0 := eq_true c65
        have c65b1 : decide (0 ≤ t126) = true := decide_eq_true c65
        clear c65
        by_cases c66 : t126 ≤ (y118.length : Int)
        case neg => rw [if_neg c66] at H; exact absurd H (by simp)
        rw [if_pos c66] at H
        have c66b0 := eq_true c66
        have c66b1 : decide (t126 ≤ (y118.length : Int)) = true := decide_eq_true c66
        clear c66
        obtain ⟨y147, hy147⟩ : ∃ y_ : List (S54), y_ = (y118.take (t126 : Int).toNat) := ⟨_, rfl⟩
        replace H : (if 0 ≤ (wrap64 (t126 + 1)) then (if (wrap64 (t126 + 1)) ≤ (y118.length : Int) then (some (y118.eraseIdx (t126 : Int).toNat)) else (none)) else (none)) = some r := by first | (rw [hy147]; with_reducible exact H) | (have H2_ := (Option.bind_some _ _).symm.trans H; rw [hy147]; with_reducible exact H2_) | (have H2_ := (Option.bind_some _ _).symm.trans H; with_reducible exact H2_) | with_reducible exact H | (rw [hy147]; exact H) | exact H
        have Ny147 := Aside0.mk hy147
        clear hy147
        obtain ⟨ji67, hji67⟩ : ∃ j_ : Int, (wrap64 (t126 + 1)) = j_ := ⟨_, rfl⟩
        replace H : (if 0 ≤ (ji67) then (if (ji67) ≤ (y118.length : Int) then (some (y118.eraseIdx (t126 : Int).toNat)) else (none)) else (none)) = some r := by first | (rw [hji67] at H; exact H) | (simp only [hji67] at H ⊢; exact H)
        (try rw [hji67] at A13)
        (try rw [hji67] at A14)
        have hji67w : (IntKind.i64.wrap (t126 + 1)) = ji67 := (i64_w _).trans hji67
        by_cases c68 : 0 ≤ (ji67)
        case neg => rw [if_neg c68] at H; exact absurd H (by simp)
        rw [if_pos c68] at H
        have c68b0 := eq_true c68
        have c68b1 : decide (0 ≤ (ji67)) = true := decide_eq_true c68
        clear c68
        by_cases c69 : (ji67) ≤ (y118.length : Int)
        case neg => rw [if_neg c69] at H; exact absurd H (by simp)
        rw [if_pos c69] at H
        have c69b0 := eq_true c69
        have c69b1 : decide ((ji67) ≤ (y118.length : Int)) = true := decide_eq_true c69
        clear c69
        obtain ⟨y151, hy151⟩ : ∃ y_ : List (S54), y_ = (y118.drop ((ji67) : Int).toNat) := ⟨_, rfl⟩
        replace H : (some (y118.eraseIdx (t126 : Int).toNat)) = some r := by first | (rw [hy151]; with_reducible exact H) | (have H2_ := (Option.bind_some _ _).symm.trans H; rw [hy151]; with_reducible exact H2_) | (have H2_ := (Option.bind_some _ _).symm.trans H; with_reducible exact H2_) | with_reducible exact H | (rw [hy151]; exact H) | exact H
        have Ny151 := Aside0.mk hy151
        clear hy151
        obtain ⟨y155, hy155⟩ : ∃ y_ : List (S54), y_ = (y118.eraseIdx (t126 : Int).toNat) := ⟨_, rfl⟩
        replace H : (some y155) = some r := by first | (rw [hy155]; with_reducible exact H) | (have H2_ := (Option.bind_some _ _).symm.trans H; rw [hy155]; with_reducible exact H2_) | (have H2_ := (Option.bind_some _ _).symm.trans H; with_reducible exact H2_) | with_reducible exact H | (rw [hy155]; exact H) | exact H
        have Ny155 := Aside0.mk hy155
        clear hy155
        obtain rfl := Option.some.inj H
        go_enter Try.func10, Try.ntmps10
        try go_wp2_with (first | ((with_reducible refine gate_builtin (b := .append) (xs := #[.tmp 11, .tmp 12]) rfl ?_); at_builtin; refine Kd.R_append_rows k54 (w0 := w) w.heap.size rfl (.tmp 11) (.tmp 12) 23 54 (.agg #[(.int .i64 0), (.int .i64 0), (.int .i64 0)]) 24 rfl Try.underlying23 info54 rfl (by decide) (by omega) (.slice none 0 0) ([] : List (S54)) l0 _ _ _ (fun _ => True) (fun _ => False) rfl rfl ?aO ?aR (fun _ _ h => h) (fun _ h => h.elim) ?aF ?aB ?aS ?aL ?_; (case aR => exact gC (HR0.out)); (case aB => exact (bl HB.out)); (case aF => exact (fun _ _ => trivial)); (case aO => exact ((Kd.R_nil _ _ _ _ (fun _ => True)))); (case aS => exact (below_size (bl HB.out))); (case aL => have := LMc5.out; omega); intro v119 w70 ho hb hg hat; rw [← Ny118.out] at ho; have n0_ := Aside0.mk (hb); have n1_ := Aside0.mk (ho); clear HB; have HB := n0_; have HO120 := n1_; clear n0_ n1_; clear ho hb hg hat; obtain ⟨Ao71, co71, eo71⟩ := Kd.R_slice HO120.out; subst eo71) | ((with_reducible refine gate_callee (f := 11) rfl ?_); refine goesL_ (some 28) rfl rfl Try.func11 (by kernel_rfl) rfl #[.int .i64 a1, .int .i64 (y118.length : Int)] rfl (by (try simp only [List.map_toArray, List.map_cons, List.map_nil]); first | done | rfl | (simp only [List.length_drop, List.length_take]; rfl)) ?_; (with_reducible refine (r01_Around.calls a1 (y118.length : Int) t126 _ A13.out).mono ?_); rintro e w' ⟨rfl, ⟨nd, rfl⟩⟩; refine ⟨_, rfl, ?_⟩) | ((with_reducible refine gate_callee (f := 11) rfl ?_); refine goesL_ (some 30) rfl rfl Try.func11 (by kernel_rfl) rfl #[.int .i64 a2, .int .i64 6] rfl (by (try simp only [List.map_toArray, List.map_cons, List.map_nil]); first | done | rfl | (simp only [List.length_drop, List.length_take]; rfl)) ?_; (with_reducible refine (r01_Around.calls a2 6 t127 _ A14.out).mono ?_); rintro e w' ⟨rfl, ⟨nd, rfl⟩⟩; refine ⟨_, rfl, ?_⟩))
        (try (rw [drewN_self w70]; generalize hq_ : World.drewN w70 _ = w70; have n0_ : Aside0 (Kd.R k54 54 w70 w.heap.size (fun _ => True) (.slice Ao71 y118.length co71) y118) := ⟨by rw [← hq_]; exact (gR (HO120.out))⟩; have n1_ : Aside0 (Below w.heap.size w w70) := ⟨by rw [← hq_]; exact (bl HB.out)⟩; clear HO120 HB hq_; have HO120 := n0_; have HB := n1_; clear n0_ n1_))
        have n0_ := Aside0.mk (Kd.R_drew HO120.out)
        have n1_ := Aside0.mk (below_drew1 HB.out)
        clear HO120
        clear HB
        have HO120 := n0_
        have HB := n1_
        clear n0_ n1_
        have q73 : (t126 : Int) ≤ ((y118.length : Int) : Int) := of_decide_eq_true (by assumption)
        obtain ⟨i073, hi073, _, hsz73, _⟩ := info_parts info54
        have hroom73 : y118.length ≤ co71 := (Kd.R_reads' HO120.out).2.1
        have hC73 : Kd.C k54 _ Ao71 y118.length y118 := (Kd.R_reads' HO120.out).2.2
        have hcut73 := cut_to (P := Try.prog) 23 54 .i64 Try.underlying23 hi073 Ao71 y118.length co71 t126 (of_decide_eq_true (by assumption)) q73 hroom73
        have hr73 := Kd.C_take (m := (t126 : Int).toNat) hC73 (by omega)
        have hy73 : y147.length = (t126 : Int).toNat := (by rw [Ny147.out, List.length_take]; omega)
        rw [← Ny147.out] at hr73
        rw [← hy73] at hcut73
        have HR150 := Aside0.mk hr73
        have HC150 := Aside0.mk (show y147.length ≤ co71 from by omega)
        clear hr73 hC73 hroom73 hi073 hsz73
        have KY73 := Aside0.mk hy73
        clear hy73
        have KL73 := Aside0.mk (show (t126 : Int).toNat ≤ y118.length from by omega)
        replace q73 := eq_true q73
        have q74 : ((ji67) : Int) ≤ ((y118.length : Int) : Int) := of_decide_eq_true (by assumption)
        obtain ⟨i074, hi074, _, hsz74, _⟩ := info_parts info54
        have hroom74 : y118.length ≤ co71 := (Kd.R_reads' HO120.out).2.1
        have hC74 : Kd.C k54 _ Ao71 y118.length y118 := (Kd.R_reads' HO120.out).2.2
        have q074 : (0 : Int) ≤ ((ji67) : Int) := of_decide_eq_true (by assumption)
        have hcut74 := cut_from (P := Try.prog) 23 54 .i64 Try.underlying23 hi074 3 hsz74 Ao71 y118.length co71 (ji67) q074 q74
        have hr74 := Kd.C_drop (m := ((ji67) : Int).toNat) (c := co71) hC74 (by omega) hroom74
        obtain ⟨A74, hA74⟩ : ∃ A1, A1 = (if co71 = ((ji67) : Int).toNat then Ao71 else (Ao71 : Option Addr).map (·.add (((ji67) : Int).toNat * 3))) := ⟨_, rfl⟩
        obtain ⟨c74, hc74⟩ : ∃ c1, c1 = co71 - ((ji67) : Int).toNat := ⟨_, rfl⟩
        have hy74 : y151.length = y118.length - ((ji67) : Int).toNat := (by rw [Ny151.out, List.length_drop] <;> omega)
        rw [show (y118).drop ((ji67) : Int).toNat = y151 from Ny151.out.symm] at hr74
        replace hr74 : Kd.C k54 _ A74 y151.length y151 := (by rw [hA74]; exact hr74)
        rw [← hy74, ← hA74, ← hc74] at hcut74
        have HR154 := Aside0.mk hr74
        have HC154 := Aside0.mk (show y151.length ≤ c74 from by rw [hy74, hc74]; exact Nat.sub_le_sub_right hroom74 _)
        clear hr74 hC74 hroom74 hi074 hsz74 hc74
        have KY74 := Aside0.mk hy74
        have KA74 := Aside0.mk hA74
        clear hy74 hA74
        have KL74 := Aside0.mk (show ((ji67) : Int).toNat ≤ y118.length from by omega)
        replace q74 := eq_true q74
        obtain ⟨go76, co76, eo76, gb76, gl76, cl76, HG76⟩ := Kd.R_form HO120.out (by have hj_ : 0 ≤ (t126 : Int) := of_decide_eq_true (by assumption); have hl_ : (ji67 : Int) ≤ (y118.length : Int) := of_decide_eq_true (by assumption); have hh_ : (t126 : Int) ≤ (y118.length : Int) := of_decide_eq_true (by assumption); rw [← hji67] at hl_; unfold wrap64 at hl_; omega)
        (first | cases eo76 | (injection eo76 with ea_ en_ ec_; (first | subst ea_ | (injection ea_ with ea_; subst ea_)); subst ec_; clear en_))
        have GB76 := Aside0.mk gb76
        have GG76 := Aside0.mk HG76
        clear gb76 gl76 HG76
        refine start_ (n := 9) (S := fun w' => True) (ds := []) #[false, false, false, false, false, false, false, false, false] (by kernel_rfl) rfl rfl trivial (fun hHeld => ?_); refine with_tabW r14_Bent.tab7 r14_Bent.bits7 (fun HT_ HW_ => ?_)
        generalize w70.drew = w72 at HO120 HB GG76 HR150 HR154 hHeld ⊢
        refine pS_ 0 (some 31) rfl rfl HT_.out (by kernel_rfl) ?_ (fun _ _ _ h => h) (by rfl) ?_ ?_ ?_ ?_
        rotate_left
        ·intro w'
         go_simp
         with_reducible rfl
        rotate_left
        ·simp only [Act.put, List.setIfInBounds_toArray, List.set_cons_zero, List.set_cons_succ, i64_w, i32_w]
         rfl
        refine pS_ 1 (some 32) rfl rfl HT_.out (by kernel_rfl) ?_ (fun _ _ _ h => h) (by rfl) ?_ ?_ ?_ ?_
        rotate_left
        ·intro w'
         go_simp
         with_reducible rfl
        rotate_left
        ·simp only [Act.put, List.setIfInBounds_toArray, List.set_cons_zero, List.set_cons_succ, i64_w, i32_w]
         rfl
        refine pS_ 2 (some 33) rfl rfl HT_.out (by kernel_rfl) ?_ (fun _ _ _ h => h) (by rfl) ?_ ?_ ?_ ?_
        rotate_left
        ·intro w'
         go_simp
         with_reducible rfl
        rotate_left
        ·simp only [Act.put, List.setIfInBounds_toArray, List.set_cons_zero, List.set_cons_succ, i64_w, i32_w]
         rfl
        refine pS_ 3 (some 34) rfl rfl HT_.out (by kernel_rfl) ?_ (fun _ _ _ h => h) (by rfl) ?_ ?_ ?_ ?_
        rotate_left
        ·intro w'
         go_simp
         with_reducible rfl
        rotate_left
        ·simp only [Act.put, List.setIfInBounds_toArray, List.set_cons_zero, List.set_cons_succ, i64_w, i32_w]
         rfl
        refine pS_ 4 (some 35) rfl rfl HT_.out (by kernel_rfl) ?_ (fun _ _ _ h => h) (by rfl) ?_ ?_ ?_ ?_
        rotate_left
        ·intro w'
         go_simp
         with_reducible rfl
        rotate_left
        ·simp only [Act.put, List.setIfInBounds_toArray, List.set_cons_zero, List.set_cons_succ, i64_w, i32_w]
         rfl
        refine pS_ 5 (some 36) rfl rfl HT_.out (by kernel_rfl) ?_ (fun _ _ _ h => h) (by rfl) ?_ ?_ ?_ ?_
        rotate_left
        ·intro w'
         go_simp
         with_reducible rfl
        rotate_left
        ·simp only [Act.put, List.setIfInBounds_toArray, List.set_cons_zero, List.set_cons_succ, i64_w, i32_w]
         rfl
        refine pS_ 6 (some 37) rfl rfl HT_.out (by kernel_rfl) ?_ (fun _ _ _ h => h) (by rfl) ?_ ?_ ?_ ?_
        rotate_left
        ·intro w'
         go_simp
         with_reducible rfl
        rotate_left
        ·simp only [Act.put, List.setIfInBounds_toArray, List.set_cons_zero, List.set_cons_succ, i64_w, i32_w]
         rfl
        refine one_ (i := 7) (N := some 38) #[true, true, true, true, true, true, true, true, false] rfl rfl (one_of HT_.out (by kernel_rfl)) (by decide) (fun K hK => ?_)
        have hj_ : 0 ≤ (t126 : Int) := of_decide_eq_true (by assumption)
        have hl_ : (ji67 : Int) ≤ (y118.length : Int) := of_decide_eq_true (by assumption)
        have hh_ : (t126 : Int) ≤ (y118.length : Int) := of_decide_eq_true (by assumption)
        have hb_ := (Kd.R_reads' HO120.out).2.2.2.1
        have h0_ : (0 : Int) ≤ (ji67 : Int) := of_decide_eq_true (by assumption)
        have hy1_ := KY73.out
        have hk_ : (ji67 : Int).toNat = y147.length + 1 := (by have hw_ : (ji67 : Int) = t126 + 1 := (by have h00_ := h0_; rw [← hji67] at h00_ ⊢; unfold wrap64 at h00_ ⊢; omega); rw [hw_]; omega)
        refine Kd.R_delete_step k54 (w0 := w) w.heap.size (by rfl) (.tmp 33) (.tmp 37) 23 54 rfl Try.underlying23 (by kernel_rfl) (g := go76) (n := y118.length) (c := co71) (k := y147.length) rfl rfl ?hA ?hm (gR (HO120.out)) ?hk (bl HB.out) (below_size (bl HB.out)) ?_
        (case hA => have ha_ := KA74.out; rw [hk_] at ha_; exact ha_)
        (case hm => have ha_ := KY74.out; omega)
        (case hk => omega)
        intro w75 ho hb hg
        clear hj_ hl_ hh_ hb_ hk_ h0_
        rw [hy1_, ← Ny155.out] at ho
        clear hy1_
        have hn_ : y118.length - 1 = y155.length := (by have := (Kd.R_reads' ho).1; omega)
        rw [hn_] at ho ⊢
        clear hn_
        have n0_ := Aside0.mk (ho)
        have n1_ := Aside0.mk (hb)
        clear HO120
        clear HB
        have HO120 := n0_
        have HB := n1_
        clear n0_ n1_
        clear ho hb hg
        refine hK.out _ _ trivial (fun hHeld => ?_)
        clear hK K
        refine norm_ (a' := ?_) ?_ ?_
        rotate_left
        ·show Act.put _ (some 38) _ = _
         simp only [Act.put, List.setIfInBounds_toArray, List.set_cons_zero, List.set_cons_succ, i64_w, i32_w]
         rfl
        refine pS_ 8 (some 9) rfl rfl HT_.out (by kernel_rfl) ?_ (fun _ _ _ h => h) (by rfl) ?_ ?_ ?_ ?_
        rotate_left
        ·intro w'
         go_simp
         with_reducible rfl
        rotate_left
        ·simp only [Act.put, List.setIfInBounds_toArray, List.set_cons_zero, List.set_cons_succ, i64_w, i32_w]
         rfl
        refine done_ (done_of HT_.out (by kernel_rfl)) ?_
        try go_wp2
        go_ret
        exact ⟨_, by first | rfl | (simp [errW_none, errW_some] <;> rfl) | (simp only [← hji67]; first | rfl | (simp [errW_none, errW_some] <;> rfl)) | (simp [*, errW_none, errW_some] <;> rfl), gR (HO120.out), bl HB.out⟩
 ·rw [if_neg c5] at H
  exact absurd H (by simp)

end Go.Proofs.Ytcnkjcbjlopkmaa.Q
