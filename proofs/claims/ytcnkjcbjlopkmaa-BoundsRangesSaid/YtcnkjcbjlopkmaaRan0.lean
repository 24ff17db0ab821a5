/- The closures of Range and the generic functions that Range calls. -/
import Derived.Test.YtcnkjcbjlopkmaaHol0
namespace Go.Proofs.Ytcnkjcbjlopkmaa.Q
open Go.RowKit Go.Proofs.YtcnkjcbjlopkmaaW.PrintWords Go.Proofs.YtcnkjcbjlopkmaaW.PrintLast Go.Proofs.YtcnkjcbjlopkmaaW.PrintMore
set_option linter.unusedVariables false
set_option linter.unusedSimpArgs false
attribute [local go_sem] max2_int min2_int max_two min_two
set_option maxHeartbeats 8000000 in
set_option maxRecDepth 100000 in
theorem wild_calls (x : Int) (w : World) : Calls Try.prog 35 #[.int .i64 x] w fun e w' => e = .returned (.bool (wild x)) ∧ w' = w := by
 by_cases h1 : x < -1099511627776
 ·have d1 : decide (x < -1099511627776) = true := decide_eq_true h1
  have hw : wild x = true := by
   show (decide (x < -(1099511627776 : Int)) || decide (x > (1099511627776 : Int))) = true
   rw [decide_eq_true (show x < -(1099511627776 : Int) by omega)]
   rfl
  rw [hw]
  go_enter Try.func35, Try.ntmps35
  go_wp2_with fail
  go_ret
  exact ⟨rfl, rfl⟩
 ·have d1 : decide (x < -1099511627776) = false := decide_eq_false h1
  by_cases h2 : 1099511627776 < x
  ·have d2 : decide (1099511627776 < x) = true := decide_eq_true h2
   have hw : wild x = true := by
    show (decide (x < -(1099511627776 : Int)) || decide (x > (1099511627776 : Int))) = true
    rw [decide_eq_true (show x > (1099511627776 : Int) by omega), Bool.or_true]
   rw [hw]
   go_enter Try.func35, Try.ntmps35
   go_wp2_with fail
   go_ret
   exact ⟨rfl, rfl⟩
  ·have d2 : decide (1099511627776 < x) = false := decide_eq_false h2
   have hw : wild x = false := by
    show (decide (x < -(1099511627776 : Int)) || decide (x > (1099511627776 : Int))) = false
    rw [decide_eq_false (show ¬ x < -(1099511627776 : Int) by omega), decide_eq_false (show ¬ x > (1099511627776 : Int) by omega)]
    rfl
   rw [hw]
   go_enter Try.func35, Try.ntmps35
   go_wp2_with fail
   go_ret
   exact ⟨rfl, rfl⟩
set_option maxHeartbeats 8000000 in
set_option maxRecDepth 100000 in
theorem ixI_calls (A : Option Addr) (c : Nat) (l : List Int) (w : World) (hr : Kd.C (Kd.int .i64) w A l.length l) (hc : l.length ≤ c) :
  Calls Try.prog 48 #[.slice A l.length c, .func (.func 35) #[] #[]] w fun e w' => e = .returned (.int .i64 (ixOf wild l 0)) ∧ Below w.heap.size w w' := by
 go_enter Try.func48, Try.ntmps48
 go_wp2_with fail
 go_loopw [8] (fun v8 wr => ∃ m : Nat, m ≤ l.length ∧ v8 = .int .i64 (m : Int) ∧ ixOf wild l 0 = ixOf wild (l.drop m) m ∧ Below w.heap.size w wr)
  (fun v8 _ => l.length - (intOf v8).toNat)
 case atStart => exact ⟨0, by omega, rfl, rfl, Below.refl _ _⟩
 case round =>
  obtain ⟨m, hm, rfl, hall, hB⟩ := hrel
  by_cases hlt : (m : Int) < (l.length : Int)
  ·have hlt1 : decide ((m : Int) < (l.length : Int)) = true := decide_eq_true hlt
   have HB := Aside0.mk hB
   have HA := Aside0.mk hall
   clear hB hall
   obtain ⟨ad, e, hx0⟩ := Kd.at_int (Kd.C_below hr HB.out) (m : Int) (by omega) hlt
   cases e
   simp only [Int.toNat_natCast] at hx0
   have hp := Aside0.mk (ixOf_drop wild (0 : Int) l m (by omega))
   generalize hd : rd l (m : Int) = d at hx0
   have hcall := wild_calls d wr
   go_wp2_with fail
   refine hcall.mono ?_
   rintro e w' ⟨rfl, rfl⟩
   have hmx := Kd.C_max hr
   have hw : wrap64 ((m : Int) + 1) = ((m + 1 : Nat) : Int) := by rw [← i64_w, IntKind.wrap_i64]; omega
   have hpe : wild (l.getD m 0) = wild d := by rw [← hd]; rfl
   cases hpd : wild d
   ·go_wp2_with fail
    go_roundw
    case rel =>
     refine ⟨m + 1, by omega, by simp, ?_, HB.out⟩
     rw [HA.out, hp.out, hpe, hpd]
     rfl
    case measure => simp [intOf]; omega
   ·go_wp2_with fail
    go_ret
    refine ⟨?_, HB.out⟩
    rw [HA.out, hp.out, hpe, hpd]
    rfl
  ·have hlt1 : decide ((m : Int) < (l.length : Int)) = false := decide_eq_false hlt
   go_wp2_with fail
   go_ret
   have hme : m = l.length := by omega
   subst hme
   exact ⟨by rw [List.drop_length]; rfl, hB⟩
theorem ixOf_any {α : Type} (p : α → Bool) : ∀ (l : List α) (i : Nat), decide (0 ≤ ixOf p l i) = l.any p
 | [], i => rfl
 | d :: r, i => by
  have ih := ixOf_any p r (i + 1)
  by_cases hpd : p d = true
  ·simp [ixOf, hpd]
  ·simp only [ixOf, hpd, List.any_cons, Bool.false_or, if_false, Bool.false_eq_true] at ih ⊢
   simpa [hpd] using ih
set_option maxHeartbeats 8000000 in
set_option maxRecDepth 100000 in
theorem anyI_calls (A : Option Addr) (c : Nat) (l : List Int) (w : World) (hr : Kd.C (Kd.int .i64) w A l.length l) (hc : l.length ≤ c) :
  Calls Try.prog 36 #[.slice A l.length c, .func (.func 35) #[] #[]] w fun e w' => e = .returned (.bool (l.any wild)) ∧ Below w.heap.size w w' := by
 go_enter Try.func36, Try.ntmps36
 go_wp2_with fail
 refine (ixI_calls A c l w hr hc).mono ?_
 rintro e w' ⟨rfl, hb⟩
 have HB := Aside0.mk hb
 clear hb
 have hz := ixOf_any wild l 0
 go_wp2_with fail
 go_ret
 exact ⟨by first | rfl | (rw [← hz]; rfl), HB.out⟩
def badRow (n : Nat) (row : List Int) : Bool := decide (row.length ≠ n) || row.any wild
set_option maxHeartbeats 8000000 in
set_option maxRecDepth 100000 in
theorem row_calls (b1 b2 : Nat) (n : Nat) (A : Option Addr) (c : Nat) (l : List Int) (w : World) (h1 : w.cell? ⟨b1, 0, none⟩ = some (.int .i64 ((n : Int) - 1))) (h2 : w.cell? ⟨b2, 0, none⟩ = some (.func (.func 35) #[] #[])) (hn : n ≤ 9000000000)
  (hr : Kd.C (Kd.int .i64) w A l.length l) (hc : l.length ≤ c) :
  Calls Try.prog 38 #[.slice A l.length c, .pointer (some ⟨b1, 0, none⟩), .pointer (some ⟨b2, 0, none⟩)] w fun e w' => e = .returned (.bool (badRow n l)) ∧ Below w.heap.size w w' := by
 have hw : wrap64 ((n : Int) - 1 + 1) = (n : Int) := by rw [← i64_w, IntKind.wrap_i64]; omega
 by_cases hl : (l.length : Int) = (n : Int)
 ·have d0 : ((l.length : Int) != (n : Int)) = false := bne_eq_false_iff_eq.2 hl
  have hb : badRow n l = l.any wild := by simp [badRow, show l.length = n by omega]
  rw [hb]
  go_enter Try.func38, Try.ntmps38
  go_wp2_with fail
  refine (anyI_calls A c l w hr hc).mono ?_
  rintro e w' ⟨rfl, hb⟩
  have HB := Aside0.mk hb
  clear hb
  go_wp2_with fail
  go_ret
  exact ⟨rfl, HB.out⟩
 ·have d0 : ((l.length : Int) != (n : Int)) = true := by simpa using hl
  have hb : badRow n l = true := by simp [badRow, show l.length ≠ n by omega]
  rw [hb]
  go_enter Try.func38, Try.ntmps38
  go_wp2_with fail
  go_ret
  exact ⟨rfl, Below.refl _ _⟩
set_option maxHeartbeats 8000000 in
set_option maxRecDepth 100000 in
theorem ixL_calls (b1 b2 : Nat) (n : Nat) (A : Option Addr) (c : Nat) (l : List (List Int)) (w : World) (hr : Kd.C (Kd.slice 3 (Kd.int .i64)) w A l.length l) (hc : l.length ≤ c) (hn : n ≤ 9000000000)
  (h1 : w.cell? ⟨b1, 0, none⟩ = some (.int .i64 ((n : Int) - 1))) (h2 : w.cell? ⟨b2, 0, none⟩ = some (.func (.func 35) #[] #[])) :
  Calls Try.prog 49 #[.slice A l.length c, .func (.func 38) #[] #[.pointer (some ⟨b1, 0, none⟩), .pointer (some ⟨b2, 0, none⟩)]] w fun e w' => e = .returned (.int .i64 (ixOf (badRow n) l 0)) ∧ Below w.heap.size w w' := by
 go_enter Try.func49, Try.ntmps49
 go_wp2_with fail
 go_loopw [8] (fun v8 wr => ∃ m : Nat, m ≤ l.length ∧ v8 = .int .i64 (m : Int) ∧ ixOf (badRow n) l 0 = ixOf (badRow n) (l.drop m) m ∧ Below w.heap.size w wr)
  (fun v8 _ => l.length - (intOf v8).toNat)
 case atStart => exact ⟨0, by omega, rfl, rfl, Below.refl _ _⟩
 case round =>
  obtain ⟨m, hm, rfl, hall, hB⟩ := hrel
  by_cases hlt : (m : Int) < (l.length : Int)
  ·have hlt1 : decide ((m : Int) < (l.length : Int)) = true := decide_eq_true hlt
   have HB := Aside0.mk hB
   have HA := Aside0.mk hall
   clear hB hall
   obtain ⟨ad, A0, c0, e, hx0, hl0, hi0⟩ := at_L4 (Kd.C_below hr HB.out) (m : Int) (by omega) hlt
   cases e
   simp only [Int.toNat_natCast] at hx0
   have hp := Aside0.mk (ixOf_drop (badRow n) ([] : List Int) l m (by omega))
   have g1 := (HB.out.cell (World.block_lt_of_cell? w _ h1)).trans h1
   have g2 := (HB.out.cell (World.block_lt_of_cell? w _ h2)).trans h2
   generalize hd : rd_L4 l (m : Int) = d at hx0 hl0 hi0
   have hcall := row_calls b1 b2 n A0 c0 d wr g1 g2 hn hi0 hl0
   clear g1 g2
   go_wp2_with fail
   refine hcall.mono ?_
   rintro e w' ⟨rfl, hb⟩
   have HB2 := Aside0.mk (below_step HB.out hb)
   clear hb
   have hmx := Kd.C_max hr
   have hw : wrap64 ((m : Int) + 1) = ((m + 1 : Nat) : Int) := by rw [← i64_w, IntKind.wrap_i64]; omega
   have hpe : badRow n (l.getD m []) = badRow n d := by rw [← hd]; rfl
   cases hpd : badRow n d
   ·go_wp2_with fail
    go_roundw
    case rel =>
     refine ⟨m + 1, by omega, by simp, ?_, HB2.out⟩
     rw [HA.out, hp.out, hpe, hpd]
     rfl
    case measure => simp [intOf]; omega
   ·go_wp2_with fail
    go_ret
    refine ⟨?_, HB2.out⟩
    rw [HA.out, hp.out, hpe, hpd]
    rfl
  ·have hlt1 : decide ((m : Int) < (l.length : Int)) = false := decide_eq_false hlt
   go_wp2_with fail
   go_ret
   have hme : m = l.length := by omega
   subst hme
   exact ⟨by rw [List.drop_length]; rfl, hB⟩
set_option maxHeartbeats 8000000 in
set_option maxRecDepth 100000 in
theorem anyL_calls (b1 b2 : Nat) (n : Nat) (A : Option Addr) (c : Nat) (l : List (List Int)) (w : World) (hr : Kd.C (Kd.slice 3 (Kd.int .i64)) w A l.length l) (hc : l.length ≤ c) (hn : n ≤ 9000000000)
  (h1 : w.cell? ⟨b1, 0, none⟩ = some (.int .i64 ((n : Int) - 1))) (h2 : w.cell? ⟨b2, 0, none⟩ = some (.func (.func 35) #[] #[])) :
  Calls Try.prog 37 #[.slice A l.length c, .func (.func 38) #[] #[.pointer (some ⟨b1, 0, none⟩), .pointer (some ⟨b2, 0, none⟩)]] w fun e w' => e = .returned (.bool (l.any (badRow n))) ∧ Below w.heap.size w w' := by
 go_enter Try.func37, Try.ntmps37
 go_wp2_with fail
 refine (ixL_calls b1 b2 n A c l w hr hc hn h1 h2).mono ?_
 rintro e w' ⟨rfl, hb⟩
 have HB := Aside0.mk hb
 clear hb
 have hz := ixOf_any (badRow n) l 0
 go_wp2_with fail
 go_ret
 exact ⟨by first | rfl | (rw [← hz]; rfl), HB.out⟩
end Go.Proofs.Ytcnkjcbjlopkmaa.Q
