/- The walk of noise.Weights at a hiding and a count. -/
import Derived.Test.YtkjafjoknipaiaaHand1
namespace Go.Proofs.Ytkjafjoknipaiaa.Q
open Go.RowKit Go.Shelf Go.Proofs.YtkjafjoknipaiaaW.PrintWords Go.Proofs.YtkjafjoknipaiaaW.PrintLast Go.Proofs.YtkjafjoknipaiaaW.PrintMore
set_option linter.unusedVariables false
set_option linter.unusedSimpArgs false
attribute [local go_sem] Oper.semAt_some

/-- The hiding lies in a block. -/
def HidAt (W : World) (B : Nat) (c m k : Int) : Prop := W.heap[B]? = some (.cells #[.int .i64 c, .int .i64 m, .int .i64 k] 43 (0, 0))
theorem HidAt.lt {W : World} {B : Nat} {c m k : Int} (h : HidAt W B c m k) : B < W.heap.size := (Array.getElem?_eq_some_iff.1 h).1
theorem HidAt.c0 {W : World} {B : Nat} {c m k : Int} (h : HidAt W B c m k) : W.cell? ⟨B, 0, none⟩ = some (.int .i64 c) := by simp [World.cell?, show W.heap[B]? = _ from h]
theorem HidAt.c1 {W : World} {B : Nat} {c m k : Int} (h : HidAt W B c m k) : W.cell? ⟨B, 1, none⟩ = some (.int .i64 m) := by simp [World.cell?, show W.heap[B]? = _ from h]
theorem HidAt.c2 {W : World} {B : Nat} {c m k : Int} (h : HidAt W B c m k) : W.cell? ⟨B, 2, none⟩ = some (.int .i64 k) := by simp [World.cell?, show W.heap[B]? = _ from h]
theorem HidAt.kept {W W' : World} {row : Option Nat} {B : Nat} {c m k : Int} (h : HidAt W B c m k) (hg : W.grownBy W' row) (hne : some B ≠ row) : HidAt W' B c m k := (hg.block B h.lt hne).trans h
theorem HidAt.new (W : World) (c m k : Int) : HidAt (W.alloc (.cells #[.int .i64 c, .int .i64 m, .int .i64 k] 43)) W.heap.size c m k := World.alloc_heap_new W _
theorem HidAt.not_row {W : World} {B : Nat} {c m k : Int} (h : HidAt W B c m k) {base n : Nat} {v : Value} {xs : List Value} (hr : W.ownsRow base 3 1 v n xs) : some B ≠ v.ownBlock := own_ne hr h (by decide)
theorem HidAt.set {W : World} {B : Nat} {c m k : Int} (h : HidAt W B c m k) {b : Nat} (hne : B ≠ b) (v : Value) : HidAt (W.setCell ⟨b, 0, none⟩ v) B c m k :=
  h.kept (grownBy_setCell' W b v) (by simpa using hne)
theorem HidAt.below {W W' : World} {B : Nat} {c m k : Int} (h : HidAt W B c m k) (hb : Below W.heap.size W W') : HidAt W' B c m k := (hb.block B h.lt).trans h

/-- What has come when all have come; when a round has said 'no more'. -/
def AllOf (N : Nat) (xs : List Nat) : Prop := xs = List.range N
def SomeOf (_ : List Nat) : Prop := True
def KeepsHid (B : Nat) (c m k : Int) (W W' : World) : Prop := HidAt W B c m k → HidAt W' B c m k

set_option maxRecDepth 100000 in
set_option maxHeartbeats 2000000 in
/-- The iterator's body: it yields each number with its weight. -/
theorem all1_in (n : Nat) (l B : Nat) (c m k : Int) (hH : Hid3 c m k) (J Jx : List Nat → World → Prop) (W0 : World) (hJ : AbidesFrom W0.heap.size J)
    (hY : ∀ (pre : List Nat) (x : Nat) (W : World), J pre W → pre.length < (m + 1).toNat → YieldAt Fence.wide (n - 1) Try.prog l #[.int .i64 (x : Int), .int .i64 (wt c m k (x : Int))] W fun e W' =>
      (e = .returned (.bool true) ∧ J (pre ++ [x]) W' ∧ KeepsHid B c m k W W') ∨ (e = .returned (.bool false) ∧ Jx (pre ++ [x]) W'))
    (W : World) (hB : HidAt W B c m k) (h0 : J [] W) :
    CallsIn Fence.wide n Try.prog 21 #[.func (.yield l) #[] #[], .pointer (some ⟨B, 0, none⟩)] W fun e W' => (∃ v, e = .returned v) ∧
      ((∃ ys, AllOf (m + 1).toNat ys ∧ J ys W') ∨ (∃ pre, SomeOf pre ∧ Jx pre W')) := by
  have hm1 := hH.m1
  have hm2 := hH.m2
  have hc1 := hB.c1
  refine callsIn_of_wp Try.func21 rfl trivial ?_ rfl
  simp only [Try.ntmps21, List.size_toArray, List.length_cons, List.length_nil, Nat.reduceAdd, Nat.reduceSub, Array.replicate_succ, Array.replicate_zero, List.push_toArray, List.append_toArray, List.nil_append, List.cons_append]
  gi_wp2
  gi_loopw [7] (fun i wr => ∃ j : Nat, j ≤ (m + 1).toNat ∧ i = .int .i64 j ∧ J (List.range j) wr ∧ HidAt wr B c m k)
    (fun i _ => (m + 1).toNat - (intOf i).toNat)
  case atStart => exact ⟨0, Nat.zero_le _, rfl, h0, hB⟩
  case round =>
    obtain ⟨j, hj, rfl, hJs, hb⟩ := hrel
    clear hc1
    have q0 := hb.c0
    have q1 := hb.c1
    have q2 := hb.c2
    by_cases hlt : (j : Int) < m + 1
    · gi_wp2_with (fail)
      refine ⟨trivial, (fun h => by cases h), ?_⟩
      refine (callsIn_wide.2 (weight_calls c m k (j : Int) _ hH (by omega) (by omega))).mono ?_
      rintro e w1 ⟨rfl, hb1⟩
      have hJ1 : J (List.range j) w1 := hJ _ _ _ none hJs (grown_of_below hb1 none) (fun r e => by cases e)
      have hB1 : HidAt w1 B c m k := hb.below hb1
      obtain ⟨fn, tmps, assign, body, hy, hR⟩ := hY _ j w1 hJ1 (by rw [List.length_range]; omega)
      clear q0 q1 q2 hb1
      gi_wp2
      refine ⟨(fun h => by cases h), ?_⟩
      refine hR.mono ?_
      rintro e W3 (⟨rfl, hJ3, hk3⟩ | ⟨rfl, hJx3⟩)
      · have hB3 := hk3 hB1
        gi_wp2
        go_roundw
        case rel => exact ⟨j + 1, by omega, by simp, by rw [List.range_succ]; exact hJ3, hB3⟩
        case measure => simp [intOf]; omega
      · gi_wp2
        refine bodyPost_ret (results_none rfl _ _ _) rfl ?_
        exact ⟨⟨_, rfl⟩, .inr ⟨_, trivial, hJx3⟩⟩
    · gi_wp2
      go_end0
      have ej : j = (m + 1).toNat := by omega
      exact ⟨⟨_, rfl⟩, .inl ⟨_, ej ▸ rfl, hJs⟩⟩

/-- h.all(): the hiding is boxed; the function value captures the box. -/
theorem all_in (n : Nat) (c m k : Int) (w : World) :
    CallsIn Fence.wide n Try.prog 17 #[.agg #[.int .i64 c, .int .i64 m, .int .i64 k]] w fun e w' => e = .returned (.func (.func 21) #[] #[.pointer (some ⟨w.heap.size, 0, none⟩)]) ∧ w' = w.alloc (.cells #[.int .i64 c, .int .i64 m, .int .i64 k] 43) := by
  refine callsIn_of_wp Try.func17 rfl trivial ?_ rfl
  simp only [Try.ntmps17, List.size_toArray, List.length_cons, List.length_nil, Nat.reduceAdd, Nat.reduceSub, Array.replicate_succ, Array.replicate_zero, List.push_toArray, List.append_toArray, List.nil_append, List.cons_append]
  gi_wp2
  go_ret
  exact ⟨rfl, rfl⟩

theorem all_stops (n : Nat) (B : Nat) (c m k : Int) (hH : Hid3 c m k) (w : World) (hB : HidAt w B c m k) :
    SeqStopsK Fence.wide n Try.prog 21 #[.pointer (some ⟨B, 0, none⟩)] (fun x : Nat => #[Value.int .i64 (x : Int), Value.int .i64 (wt c m k (x : Int))]) (KeepsHid B c m k) (AllOf (m + 1).toNat) SomeOf (m + 1).toNat w :=
  fun l J Jx W hW hJ _ hY h0 => all1_in n l B c m k hH J Jx W hJ hY W (hB.below hW) h0

theorem wts_snoc (c m k : Int) (n : Nat) : wts c m k (n + 1) = wts c m k n ++ [wt c m k (n : Int)] := by simp [wts, List.range_succ]

set_option maxRecDepth 100000 in
set_option maxHeartbeats 2000000 in
/-- noise.Weights at a hiding and a count. -/
theorem Weights_yes (c m k : Int) (hH : Hid3 c m k) (w : World) :
    Calls Try.prog 7 #[.int .i64 c, .int .i64 m, .int .i64 k] w fun e W' => ∃ v, e = .returned (.tuple #[v, .int .i64 0]) ∧ W'.ownsRow w.heap.size 3 1 v (wts c m k (m + 1).toNat).length ((wts c m k (m + 1).toNat).map (Value.int .i64)) ∧ Below w.heap.size w W' := by
  obtain ⟨i0, hi, hz0, hz1, hz2⟩ := info_parts info3
  have hval := valid_f c m k
  rw [decide_eq_true hH] at hval
  have HV := Aside0.mk hval
  clear hval
  refine (callsIn_wide (n := 5)).1 ?_
  refine callsIn_of_wp_marks Try.func7 rfl trivial ?_ rfl
  simp only [Try.ntmps7, List.size_toArray, List.length_cons, List.length_nil, Nat.reduceAdd, Nat.reduceSub, Array.replicate_succ, Array.replicate_zero, List.push_toArray, List.append_toArray, List.nil_append, List.cons_append]
  gi_wp2_with (fail)
  refine ⟨trivial, ?_⟩
  refine (callsIn_wide.2 (noise_hiding_valid.calls c m k true _ HV.out)).mono ?_
  rintro e w1 ⟨rfl, hb1⟩
  have hb0 : Below w.heap.size w w1 := ((Below.refl _ w).alloc (Nat.le_refl _) _).trans (hb1.mono (by simp))
  have hh0 : HidAt w1 w.heap.size c m k := (HidAt.new w c m k).below hb1
  have q0 := hh0.c0
  have q1 := hh0.c1
  have q2 := hh0.c2
  have hsz := hh0.lt
  clear hb1
  gi_wp2_with (fail)
  refine ⟨trivial, ?_⟩
  refine (all_in _ c m k _).mono ?_
  rintro e w2 ⟨rfl, rfl⟩
  clear q0 q1 q2
  gi_wp2_with (fail)
  have bO : Boxed (w1.alloc (.cells #[.slice none 0 0] 24)) w1.heap.size 24 (.slice none 0 0) := Boxed.new _ _ _
  have hH2 : HidAt ((w1.alloc (.cells #[.slice none 0 0] 24)).alloc (.cells #[.int .i64 c, .int .i64 m, .int .i64 k] 43)) (w1.heap.size + 1) c m k := by
    have := HidAt.new (w1.alloc (.cells #[.slice none 0 0] 24)) c m k
    rwa [World.size_alloc] at this
  have hB0 : Below w.heap.size w ((w1.alloc (.cells #[.slice none 0 0] 24)).alloc (.cells #[.int .i64 c, .int .i64 m, .int .i64 k] 43)) := (hb0.alloc hb0.size _).alloc (by simp; omega) _
  have hm1 := hH.m1
  have hm2 := hH.m2
  refine wpIn_rangeFunc_ownG rfl (by omega) (gf := 21) (lb := #[.pointer (some ⟨w1.heap.size + 1, 0, none⟩)]) rfl trivial (enters_of Try.func21 (by kernel_rfl) rfl)
    (all_stops _ (w1.heap.size + 1) c m k hH _ hH2) (fun h1 h2 h => h2 (h1 h)) (fun W l o o' hl _ _ _ h => h.kept (grownBy_putObj' W l o') (by simp at hl ⊢; omega)) (Below.refl _ _) (fun _ => rfl)
    (fun pre W => (∃ v, Boxed W w1.heap.size 24 v ∧ W.ownsRow w.heap.size 3 1 v pre.length ((pre.map (fun x : Nat => wt c m k (x : Int))).map (Value.int .i64)) ∧ True) ∧ Below w.heap.size w W)
    (fun _ _ _ => False)
    (OwnFrom.and (Own.from (holdsRow_own w.heap.size w1.heap.size 24 3 1 (fun pre : List Nat => pre.length) (fun pre : List Nat => (pre.map (fun x : Nat => wt c m k (x : Int))).map (Value.int .i64)) (fun _ _ => True)) _) (ownFrom_below (Nat.le_refl _) (by simp; omega)))
    (fun _ _ _ _ _ hs _ _ => hs)
    ⟨⟨_, bO.alloc _, World.ownsRow_nil _ _ _ _, trivial⟩, hB0⟩
    (fun x => { tmps := #[.int .i64 c, .int .i64 m, .int .i64 k, undef, undef, undef, .slice none 0 0, .int .i64 0, .pointer (some ⟨w.heap.size, 0, none⟩), .pointer (some ⟨w1.heap.size, 0, none⟩), undef, .int .i64 (wt c m k (x : Int)), .int .i64 c, .int .i64 m, .int .i64 k, .agg #[.int .i64 c, .int .i64 m, .int .i64 k], .agg #[.int .i64 c, .int .i64 m, .int .i64 k], .bool true, .bool false, .agg #[.int .i64 c, .int .i64 m, .int .i64 k], .func (.func 21) #[] #[.pointer (some ⟨w1.heap.size + 1, 0, none⟩)], .int .i64 (x : Int), .int .i64 (wt c m k (x : Int)), undef, undef, undef, undef, undef], defers := [] }) ?assign ?body ?done ?stop
  case assign =>
    intro l x W K hK
    gi_wp2
    exact hK
  case body =>
    rintro l pre x W ⟨⟨v, hv, hrow, -⟩, hB⟩ hlt
    have hc := hv.cell
    have hle := hb0.size
    have hpl : pre.length ≤ 38 := by omega
    gi_wp2_with (gi_at_builtin; refine wpListIn_append_own _ rfl _ _ 24 rfl w.heap.size 3 i0 (.int .i64 0) 1 8 Try.underlying24 hi hz0 hz1 hz2 rfl (by decide) _ _ _ rfl (hrow.alloc _) ⟨W.heap.size, 0, none⟩ 1 1 [.int .i64 (wt c m k (x : Int))] rfl rfl (cell_one_new _ _ _) (by simp [Value.oneCell']) (by unfold maxLen; omega) (by omega) (by have := hB.size; simp; omega) ?_; intro v' w1' hown' hgrow _; obtain ⟨g', cap', rfl⟩ := ownsRow_succ hown'; obtain ⟨hv1, hv2, hr2, hk2, hb2⟩ := hv.appended (by decide) hrow hB.size hle hown' hgrow; have hc1 := hv1.cell; have hf1 := hv1.frozen)
    refine ⟨hk2.from _, fun hh => ?_, ⟨_, hv2, by simpa using hr2, trivial⟩, hB.trans hb2⟩
    exact ((hh.kept (World.grownBy_alloc W _ none) (by simp)).kept hgrow (hh.not_row hrow)).set (by omega) _
  case done =>
    rintro D ys W hD hys ⟨⟨v, hv, hrow, -⟩, hB⟩ hK
    have hc := hv.cell
    unfold AllOf at hys
    subst hys
    gi_wp2
    refine ⟨by simp, .inl ⟨_, _, rfl, run_takeDeferred hK, ?_⟩⟩
    exact ⟨_, results_tmp2 rfl _ _ _, v, rfl, by simpa [wts] using ownsRow_putObj hrow _ hK rfl, hB.trans (belowK_b (w := w) (Nat.le_refl _) W D _ _ (by simp at hD; omega) hK rfl rfl)⟩
  case stop =>
    rintro D c pre W _ _ h _
    exact h.elim
end Go.Proofs.Ytkjafjoknipaiaa.Q
