/- slices.Clone, slices.Max and slices.Min, as Range calls them. -/
import Derived.Test.YtcnkjcbjlopkmaaRan0
import Derived.Laws.Cover3
namespace Go.Proofs.Ytcnkjcbjlopkmaa.Q
open Go.RowKit Go.Proofs.YtcnkjcbjlopkmaaW.PrintWords Go.Proofs.YtcnkjcbjlopkmaaW.PrintLast Go.Proofs.YtcnkjcbjlopkmaaW.PrintMore
set_option linter.unusedVariables false
set_option linter.unusedSimpArgs false
attribute [local go_sem] max2_int min2_int max_two min_two
def maxOf (z : Int) (l : List Int) : Int := l.foldl (fun a x => if a < x then x else a) z
def minOf (z : Int) (l : List Int) : Int := l.foldl (fun a x => if x < a then x else a) z
theorem maxOf_take (z : Int) (l : List Int) (m : Nat) (h : m < l.length) : maxOf z (l.take (m + 1)) = (if maxOf z (l.take m) < rd l m then rd l m else maxOf z (l.take m)) := by
 rw [List.take_succ_eq_append_getElem h, maxOf, List.foldl_append]
 simp [rd, maxOf, List.getD_eq_getElem?_getD, h]
theorem minOf_take (z : Int) (l : List Int) (m : Nat) (h : m < l.length) : minOf z (l.take (m + 1)) = (if rd l m < minOf z (l.take m) then rd l m else minOf z (l.take m)) := by
 rw [List.take_succ_eq_append_getElem h, minOf, List.foldl_append]
 simp [rd, minOf, List.getD_eq_getElem?_getD, h]
set_option maxHeartbeats 8000000 in
set_option maxRecDepth 100000 in
theorem clone_calls (A0 : Option Addr) (c0 : Nat) (l0 : List Int) (w : World) (hr0 : Kd.C (Kd.int .i64) w A0 l0.length l0) (hc0 : l0.length ≤ c0) (hm : l0.length ≤ 100) :
  Calls Try.prog 39 #[.slice A0 l0.length c0] w fun e w' => ∃ v0_ : Value, e = .returned (v0_) ∧ Kd.R (Kd.int .i64) 3 w' w.heap.size (fun _ => True) v0_ l0 ∧ Below w.heap.size w w' := by
 have q22 : ∀ (w : World) (a : Option Addr) (n c : Nat), (binOp .eql 22 (.slice a n c) (.slice none 0 0)).run Try.prog w = .ok (.bool a.isNone) w := fun w a n c => by
  have h_ := run_equal_slice_nil (P := Try.prog) w 22 3 a n c Try.underlying22
  simp [binOp, Sem.run_bind, h_]
 cases A0 with
 | none =>
  have hl : l0 = [] := by
   rcases Nat.eq_zero_or_pos l0.length with h | h
   ·exact List.eq_nil_of_length_eq_zero h
   ·obtain ⟨ad, e, _⟩ := Kd.at_int hr0 0 (Int.le_refl 0) (by omega)
    cases e
  subst hl
  go_enter Try.func39, Try.ntmps39
  go_wp2_with fail
  go_ret
  exact ⟨_, rfl, Kd.R_nil _ _ _ _ _, Below.refl _ _⟩
 | some ad =>
  have HB := Aside0.mk (Below.refl w.heap.size w)
  have HR0 := Aside0.mk hr0
  clear hr0
  go_enter Try.func39, Try.ntmps39
  go_wp2_with (first | ((with_reducible refine gate_dst (N := 5) rfl ?_); refine Kd.R_lit (Kd.int .i64) w.heap.size 3 ?hg (N := 5) ?hd (xs := ([] : List Int)) (inner := []) (ok := fun _ => True) (okp := fun _ => True) ?hr ?hp (fun _ hk => hk) trivial HB.out (Nat.le_refl _) (by simp) ?_; (case hd => rfl); (case hg => rfl); (case hr => first | (go_simp; done) | (go_simp; rfl)); (case hp => exact Reps.none _ _); intro v1 w1 ho hb hg_ hnew_; clear hg_ hnew_; have HR1 := Aside0.mk (Kd.C_below HR0.out hb); clear HB HR0; have HB := Aside0.mk hb; have HO := Aside0.mk ho; clear hb ho; obtain ⟨Ao, co, eo⟩ := Kd.R_slice HO.out; subst eo) | ((with_reducible refine gate_builtin (b := .append) (xs := #[.tmp 5, .tmp 6]) rfl ?_); at_builtin; refine Kd.R_append_rows (Kd.int .i64) (w0 := w) w.heap.size rfl (.tmp 5) (.tmp 6) 22 3 (.int .i64 0) 8 rfl Try.underlying22 info3 rfl (by decide) (by omega) (.slice Ao ([] : List Int).length co) ([] : List Int) l0 _ _ _ (fun _ => True) (fun _ => False) rfl rfl ?aO ?aR (fun _ _ h => h) (fun _ h => h.elim) ?aF ?aB ?aS ?aL ?_; (case aR => exact HR1.out); (case aB => exact HB.out); (case aF => exact (fun _ _ => trivial)); (case aO => exact HO.out); (case aS => exact below_size HB.out); (case aL => simp only [List.length_nil]; omega); intro v2 w2 ho hb hg hat; clear HB HO HR1; have HB := Aside0.mk hb; have HO := Aside0.mk ho; clear hb ho hg hat))
  go_ret
  exact ⟨_, rfl, HO.out, HB.out⟩
set_option maxHeartbeats 8000000 in
set_option maxRecDepth 100000 in
theorem max_calls (A0 : Option Addr) (c0 : Nat) (l0 : List Int) (w : World) (hr0 : Kd.C (Kd.int .i64) w A0 l0.length l0) (hc0 : l0.length ≤ c0) (h1 : 1 ≤ l0.length) :
  Calls Try.prog 40 #[.slice A0 l0.length c0] w fun e w' => e = .returned (.int .i64 (maxOf (rd l0 0) l0)) ∧ w' = w := by
 have hmx := Kd.C_max hr0
 obtain ⟨ad, e, hx0⟩ := Kd.at_int hr0 0 (Int.le_refl 0) (by omega)
 cases e
 have d0 : decide ((l0.length : Int) < 1) = false := decide_eq_false (by omega)
 have d1 : (0 : Int) < (l0.length : Int) := by omega
 have hx0 : w.cell? ad = some (.int .i64 (rd l0 0)) := by
  have h_ : ad.add ((0 : Int).toNat) = ad := by unfold Addr.add; split <;> simp_all
  rw [h_] at hx0
  exact hx0
 have hz : maxOf (rd l0 0) (l0.take 1) = rd l0 0 := by
  rw [maxOf_take _ _ 0 (by omega)]
  simp [maxOf]
 generalize hz0 : rd l0 0 = z at hx0 hz ⊢
 go_enter Try.func40, Try.ntmps40
 go_wp2_with fail
 go_loopw [3, 4] (fun v3 v4 wr => ∃ m : Nat, 1 ≤ m ∧ m ≤ l0.length ∧ v4 = .int .i64 (m : Int) ∧ v3 = .int .i64 (maxOf z (l0.take m)) ∧ wr = w)
  (fun _ v4 _ => l0.length - (intOf v4).toNat)
 case atStart => exact ⟨1, by omega, by omega, rfl, by rw [hz], rfl⟩
 case round =>
  obtain ⟨m, hm1, hm, rfl, rfl, rfl⟩ := hrel
  by_cases hlt : (m : Int) < (l0.length : Int)
  ·have hlt1 : decide ((m : Int) < (l0.length : Int)) = true := decide_eq_true hlt
   obtain ⟨ad', e', hx⟩ := Kd.at_int hr0 (m : Int) (by omega) hlt
   injection e' with e'
   subst e'
   simp only [Int.toNat_natCast] at hx
   have hw : wrap64 ((m : Int) + 1) = ((m + 1 : Nat) : Int) := by rw [← i64_w, IntKind.wrap_i64]; omega
   have hs := Aside0.mk (maxOf_take z l0 m (by omega))
   go_wp2_with fail
   go_roundw
   case rel => exact ⟨m + 1, by omega, by omega, by simp, by rw [hs.out], trivial⟩
   case measure => simp [intOf]; omega
  ·have hlt1 : decide ((m : Int) < (l0.length : Int)) = false := decide_eq_false hlt
   go_wp2_with fail
   go_ret
   have hme : m = l0.length := by omega
   subst hme
   exact ⟨by rw [List.take_length]; rfl, rfl⟩
set_option maxHeartbeats 8000000 in
set_option maxRecDepth 100000 in
theorem min_calls (A0 : Option Addr) (c0 : Nat) (l0 : List Int) (w : World) (hr0 : Kd.C (Kd.int .i64) w A0 l0.length l0) (hc0 : l0.length ≤ c0) (h1 : 1 ≤ l0.length) :
  Calls Try.prog 41 #[.slice A0 l0.length c0] w fun e w' => e = .returned (.int .i64 (minOf (rd l0 0) l0)) ∧ w' = w := by
 have hmx := Kd.C_max hr0
 obtain ⟨ad, e, hx0⟩ := Kd.at_int hr0 0 (Int.le_refl 0) (by omega)
 cases e
 have d0 : decide ((l0.length : Int) < 1) = false := decide_eq_false (by omega)
 have d1 : (0 : Int) < (l0.length : Int) := by omega
 have hx0 : w.cell? ad = some (.int .i64 (rd l0 0)) := by
  have h_ : ad.add ((0 : Int).toNat) = ad := by unfold Addr.add; split <;> simp_all
  rw [h_] at hx0
  exact hx0
 have hz : minOf (rd l0 0) (l0.take 1) = rd l0 0 := by
  rw [minOf_take _ _ 0 (by omega)]
  simp [minOf]
 generalize hz0 : rd l0 0 = z at hx0 hz ⊢
 go_enter Try.func41, Try.ntmps41
 go_wp2_with fail
 go_loopw [3, 4] (fun v3 v4 wr => ∃ m : Nat, 1 ≤ m ∧ m ≤ l0.length ∧ v4 = .int .i64 (m : Int) ∧ v3 = .int .i64 (minOf z (l0.take m)) ∧ wr = w)
  (fun _ v4 _ => l0.length - (intOf v4).toNat)
 case atStart => exact ⟨1, by omega, by omega, rfl, by rw [hz], rfl⟩
 case round =>
  obtain ⟨m, hm1, hm, rfl, rfl, rfl⟩ := hrel
  by_cases hlt : (m : Int) < (l0.length : Int)
  ·have hlt1 : decide ((m : Int) < (l0.length : Int)) = true := decide_eq_true hlt
   obtain ⟨ad', e', hx⟩ := Kd.at_int hr0 (m : Int) (by omega) hlt
   injection e' with e'
   subst e'
   simp only [Int.toNat_natCast] at hx
   have hw : wrap64 ((m : Int) + 1) = ((m + 1 : Nat) : Int) := by rw [← i64_w, IntKind.wrap_i64]; omega
   have hs := Aside0.mk (minOf_take z l0 m (by omega))
   go_wp2_with fail
   go_roundw
   case rel => exact ⟨m + 1, by omega, by omega, by simp, by rw [hs.out], trivial⟩
   case measure => simp [intOf]; omega
  ·have hlt1 : decide ((m : Int) < (l0.length : Int)) = false := decide_eq_false hlt
   go_wp2_with fail
   go_ret
   have hme : m = l0.length := by omega
   subst hme
   exact ⟨by rw [List.take_length]; rfl, rfl⟩
end Go.Proofs.Ytcnkjcbjlopkmaa.Q
