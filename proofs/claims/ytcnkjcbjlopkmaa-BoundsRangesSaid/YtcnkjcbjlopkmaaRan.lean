/- The call of Range gives the plain function. -/
import Derived.Test.YtcnkjcbjlopkmaaRan1
import Derived.Deep.Light
namespace Go.Proofs.Ytcnkjcbjlopkmaa.Q
open Go.RowKit Go.Proofs.YtcnkjcbjlopkmaaW.PrintWords Go.Proofs.YtcnkjcbjlopkmaaW.PrintLast Go.Proofs.YtcnkjcbjlopkmaaW.PrintMore
set_option linter.unusedVariables false
set_option linter.unusedSimpArgs false
attribute [local go_sem] max2_int min2_int max_two min_two
theorem badTab_any (c : List (List Int)) : badTab c = (decide (c.length < 1) || decide (11 < c.length) || c.any (badRow c.length)) := rfl
def losP (c : List (List Int)) (vs : List Int) (n k : Nat) : Nat → List Int
 | 0 => []
 | j + 1 => if cel c (rowAt n k j) k < FREE then losP c vs n k j ++ [vs.getD j 0 - cel c (rowAt n k j) k] else losP c vs n k j
def hisP (c : List (List Int)) (vs : List Int) (n k : Nat) : Nat → List Int
 | 0 => []
 | j + 1 => if cel c k (rowAt n k j) < FREE then hisP c vs n k j ++ [vs.getD j 0 + cel c k (rowAt n k j)] else hisP c vs n k j
theorem maxOf_snoc (z y : Int) (l : List Int) : maxOf z (l ++ [y]) = if maxOf z l < y then y else maxOf z l := by unfold maxOf; rw [List.foldl_append]; rfl
theorem minOf_snoc (z y : Int) (l : List Int) : minOf z (l ++ [y]) = if y < minOf z l then y else minOf z l := by unfold minOf; rw [List.foldl_append]; rfl
theorem loOf_losP (c : List (List Int)) (vs : List Int) (n k : Nat) : ∀ j, loOf c vs n k j = (losP c vs n k j).head?.map (fun z => maxOf z (losP c vs n k j))
 | 0 => rfl
 | j + 1 => by
  simp only [loOf, losP]
  rw [loOf_losP c vs n k j]
  by_cases h : cel c (rowAt n k j) k < FREE
  ·rw [if_pos h, if_pos h]
   cases hl : losP c vs n k j with
   | nil => simp [maxOf]
   | cons a r =>
    simp only [List.head?_cons, Option.map_some, List.cons_append]
    rw [show a :: (r ++ [vs.getD j 0 - cel c (rowAt n k j) k]) = (a :: r) ++ [vs.getD j 0 - cel c (rowAt n k j) k] from rfl, maxOf_snoc]
  ·rw [if_neg h, if_neg h]
theorem hiOf_hisP (c : List (List Int)) (vs : List Int) (n k : Nat) : ∀ j, hiOf c vs n k j = (hisP c vs n k j).head?.map (fun z => minOf z (hisP c vs n k j))
 | 0 => rfl
 | j + 1 => by
  simp only [hiOf, hisP]
  rw [hiOf_hisP c vs n k j]
  by_cases h : cel c k (rowAt n k j) < FREE
  ·rw [if_pos h, if_pos h]
   cases hl : hisP c vs n k j with
   | nil => simp [minOf]
   | cons a r =>
    simp only [List.head?_cons, Option.map_some, List.cons_append]
    rw [show a :: (r ++ [vs.getD j 0 + cel c k (rowAt n k j)]) = (a :: r) ++ [vs.getD j 0 + cel c k (rowAt n k j)] from rfl, minOf_snoc]
  ·rw [if_neg h, if_neg h]
theorem cel_bd {c : List (List Int)} (h : c.any (badRow c.length) = false) (i k : Nat) (hi : i < c.length) (hk : k < c.length) : (rd_L4 c (i : Int)).length = c.length ∧ rd (rd_L4 c (i : Int)) (k : Int) = cel c i k ∧ -1099511627776 ≤ cel c i k ∧ cel c i k ≤ 1099511627776 := by
 have e1 : rd_L4 c (i : Int) = c[i] := by simp [rd_L4, List.getD_eq_getElem?_getD, hi]
 have h2 : badRow c.length c[i] = false := by
  have := List.any_eq_false.1 h c[i] (List.getElem_mem hi)
  simpa using this
 simp only [badRow, Bool.or_eq_false_iff, decide_eq_false_iff_not, Decidable.not_not] at h2
 have hl : c[i].length = c.length := by have := h2.1; omega
 have e2 : cel c i k = c[i][k]'(by omega) := by simp [cel, List.getD_eq_getElem?_getD, hi, show k < c[i].length by omega]
 have h3 : wild (c[i][k]'(by omega)) = false := by
  have := List.any_eq_false.1 h2.2 (c[i][k]'(by omega)) (List.getElem_mem _)
  simpa using this
 have h4 : (decide (c[i][k]'(by omega) < -(1099511627776 : Int)) || decide (c[i][k]'(by omega) > (1099511627776 : Int))) = false := h3
 rw [Bool.or_eq_false_iff, decide_eq_false_iff_not, decide_eq_false_iff_not] at h4
 rw [e1]
 refine ⟨hl, by rw [e2]; simp [rd, List.getD_eq_getElem?_getD, show k < c[i].length by omega], ?_, ?_⟩ <;> rw [e2] <;> omega
theorem rowAt_lt (N k j : Nat) (hj : j ≤ k) (hk : k < N) : rowAt (N - 1) k j < N := by
 unfold rowAt
 split <;> omega
theorem rowAt_cases (N k j : Nat) (hN : 1 ≤ N) : (j = k ∧ (N : Int) - 1 = (rowAt (N - 1) k j : Nat)) ∨ (j ≠ k ∧ rowAt (N - 1) k j = j) := by
 unfold rowAt
 split <;> omega
theorem val_bd {vs : List Int} (h : vs.any wild = false) (j : Nat) : -1099511627776 ≤ vs.getD j 0 ∧ vs.getD j 0 ≤ 1099511627776 := by
 rcases Nat.lt_or_ge j vs.length with hj | hj
 ·have e : vs.getD j 0 = vs[j] := by simp [List.getD_eq_getElem?_getD, hj]
  have h3 : wild vs[j] = false := by
   have := List.any_eq_false.1 h vs[j] (List.getElem_mem _)
   simpa using this
  have h4 : (decide (vs[j] < -(1099511627776 : Int)) || decide (vs[j] > (1099511627776 : Int))) = false := h3
  rw [Bool.or_eq_false_iff, decide_eq_false_iff_not, decide_eq_false_iff_not] at h4
  omega
 ·rw [List.getD_eq_getElem?_getD, List.getElem?_eq_none hj]
  simp
theorem own3 {w : World} {base : Nat} {v : Value} {xs : List Int} {ok ok' : Nat → Prop} (h : Kd.R (Kd.int .i64) 3 w base ok v xs) (hk : ∀ k, v.ownBlock = some k → ok' k) : Kd.R (Kd.int .i64) 3 w base ok' v xs :=
 Kd.R_of_own (enc := Value.int .i64) (h1 := fun _ => rfl) (Kd.own_of_R (enc := Value.int .i64) (h1 := fun _ => rfl) h) hk
theorem lo_after {W w1 : World} {base : Nat} {E u v s : Value} {es hs : List Int}
  (hE : Kd.R (Kd.int .i64) 3 W base (fun k => some k ≠ u.ownBlock ∧ some k ≠ s.ownBlock) E es) (h11 : Kd.R (Kd.int .i64) 3 W base (fun _ => True) s hs)
  (h10 : ∀ k, u.ownBlock = some k → some k ≠ s.ownBlock) (hg : W.grownBy w1 u.ownBlock) (hat : v.ownBlock = u.ownBlock ∨ ∃ b, v.ownBlock = some b ∧ W.heap.size ≤ b) :
  Kd.R (Kd.int .i64) 3 w1 base (fun k => some k ≠ v.ownBlock ∧ some k ≠ s.ownBlock) E es ∧ Kd.R (Kd.int .i64) 3 w1 base (fun _ => True) s hs := by
 refine ⟨?_, ?_⟩
 ·exact Kd.R_mono (Kd.R_after (ok := fun k => some k ≠ s.ownBlock) (Kd.R_mono hE (fun k hk => ⟨hk.2, hk.1⟩)) hg hat) (fun k hk => ⟨hk.2, hk.1⟩)
 ·exact Kd.R_mono (Kd.R_after (ok := fun _ => True) (own3 h11 (fun k hk => ⟨trivial, fun he => h10 k he.symm hk.symm⟩)) hg hat) (fun _ _ => trivial)
theorem hi_after {W w1 : World} {base : Nat} {E u v s : Value} {es ls : List Int}
  (hE : Kd.R (Kd.int .i64) 3 W base (fun k => some k ≠ u.ownBlock ∧ some k ≠ s.ownBlock) E es) (h10 : Kd.R (Kd.int .i64) 3 W base (fun k => some k ≠ s.ownBlock) u ls)
  (hg : W.grownBy w1 s.ownBlock) (hat : v.ownBlock = s.ownBlock ∨ ∃ b, v.ownBlock = some b ∧ W.heap.size ≤ b) :
  Kd.R (Kd.int .i64) 3 w1 base (fun k => some k ≠ u.ownBlock ∧ some k ≠ v.ownBlock) E es ∧ Kd.R (Kd.int .i64) 3 w1 base (fun k => some k ≠ v.ownBlock) u ls := by
 refine ⟨?_, ?_⟩
 ·exact Kd.R_after (ok := fun k => some k ≠ u.ownBlock) hE hg hat
 ·exact Kd.R_mono (Kd.R_after (ok := fun _ => True) (Kd.R_mono h10 (fun k hk => ⟨trivial, hk⟩)) hg hat) (fun k hk => hk.2)
theorem losP_len (c : List (List Int)) (vs : List Int) (n k : Nat) : ∀ m, (losP c vs n k m).length ≤ m ∧ (hisP c vs n k m).length ≤ m
 | 0 => ⟨Nat.le_refl _, Nat.le_refl _⟩
 | m + 1 => by
  obtain ⟨h1, h2⟩ := losP_len c vs n k m
  refine ⟨?_, ?_⟩
  ·unfold losP
   split
   ·rw [List.length_append, List.length_singleton]; omega
   ·omega
  ·unfold hisP
   split
   ·rw [List.length_append, List.length_singleton]; omega
   ·omega
theorem ends_of (f : Int → List Int → Int) (z : Int) (L : List Int) : (L = [] ∧ (L.head?.map (fun a => f a L)).getD z = z) ∨ (1 ≤ L.length ∧ (L.head?.map (fun a => f a L)).getD z = f (rd L 0) L) := by
 cases L with
 | nil => exact .inl ⟨rfl, rfl⟩
 | cons a r => exact .inr ⟨by simp, by simp [rd]⟩
theorem wrap_of (x : Int) (h1 : -9223372036854775808 ≤ x) (h2 : x ≤ 9223372036854775807) : wrap64 x = x := by rw [← i64_w, IntKind.wrap_i64]; omega
set_option maxHeartbeats 8000000 in
set_option maxRecDepth 100000 in
theorem bounds_Range.calls (A0 : Option Addr) (c0 : Nat) (l0 : List (List Int)) (A1 : Option Addr) (c1 : Nat) (l1 : List Int) (r1 : Int) (r2 : Int) (r3 : Int) (w : World) (hr0 : Kd.C (Kd.slice 3 (Kd.int .i64)) w A0 l0.length l0) (hc0 : l0.length ≤ c0) (hr1 : Kd.C (Kd.int .i64) w A1 l1.length l1) (hc1 : l1.length ≤ c1) (h : bounds_Range.f l0 l1 = some (r1, r2, r3)) :
  Calls Try.prog 21 #[.slice A0 l0.length c0, .slice A1 l1.length c1] w fun e w' => e = .returned (.tuple #[.int .i64 r1, .int .i64 r2, .int .i64 r3]) ∧ Below w.heap.size w w' := by
 have hS : rangeS l0 l1 = (r1, r2, r3) := Option.some.inj h
 clear h
 unfold rangeS at hS
 rw [badTab_any] at hS
 have hmx := Kd.C_max hr0
 have hw1 : wrap64 ((l0.length : Int) - 1) = (l0.length : Int) - 1 := by rw [← i64_w, IntKind.wrap_i64]; omega
 by_cases hn0 : l0.length < 1
 ·have d0 : decide ((l0.length : Int) - 1 < 0) = true := decide_eq_true (by omega)
  rw [if_pos (by simp [hn0])] at hS
  injection hS with e1 hS
  injection hS with e2 e3
  subst e1 e2 e3
  go_enter Try.func21, Try.ntmps21
  go_wp2_with fail
  go_ret3
  exact ⟨rfl, by repeat (first | exact Below.refl _ _ | apply below_alloc)⟩
 have d0 : decide ((l0.length : Int) - 1 < 0) = false := decide_eq_false (by omega)
 by_cases hn1 : 11 < l0.length
 ·have d1 : decide (10 < (l0.length : Int) - 1) = true := decide_eq_true (by omega)
  rw [if_pos (by simp [hn1])] at hS
  injection hS with e1 hS
  injection hS with e2 e3
  subst e1 e2 e3
  go_enter Try.func21, Try.ntmps21
  go_wp2_with fail
  go_ret3
  exact ⟨rfl, by repeat (first | exact Below.refl _ _ | apply below_alloc)⟩
 have d1 : decide (10 < (l0.length : Int) - 1) = false := decide_eq_false (by omega)
 rw [decide_eq_false hn0, decide_eq_false hn1, Bool.false_or, Bool.false_or] at hS
 have HR0 := Aside0.mk hr0
 have HR1 := Aside0.mk hr1
 clear hr0 hr1
 obtain ⟨z0, hz0⟩ : ∃ z0, l1.any wild = z0 := ⟨_, rfl⟩
 obtain ⟨z1, hz1⟩ : ∃ z1, l0.any (badRow l0.length) = z1 := ⟨_, rfl⟩
 rw [hz0, hz1] at hS
 go_enter Try.func21, Try.ntmps21
 go_wp2_with fail
 generalize hw2 : (w.alloc (Obj.cells #[Value.int IntKind.i64 ((l0.length : Int) - 1)] 3)).alloc (Obj.cells #[Value.func (Fn.func 35) #[] #[]] 68) = w2
 have hB : Below w.heap.size w w2 := by rw [← hw2]; exact below_alloc (below_alloc (Below.refl _ _) _) _
 have h1 : w2.cell? ⟨w.heap.size, 0, none⟩ = some (Value.int IntKind.i64 ((l0.length : Int) - 1)) := by
  rw [← hw2]
  exact (blk_cell (blk_alloc (blk_new w _) _) 0).trans rfl
 have h2 : w2.cell? ⟨w.heap.size + 1, 0, none⟩ = some (Value.func (Fn.func 35) #[] #[]) := by
  rw [← hw2]
  have e_ : w.heap.size + 1 = (w.alloc (Obj.cells #[Value.int IntKind.i64 ((l0.length : Int) - 1)] 3)).heap.size := by simp
  rw [e_]
  exact (blk_cell (blk_new _ _) 0).trans rfl
 have hs : w.heap.size + 2 = w2.heap.size := by rw [← hw2]; simp
 clear hw2
 refine (anyI_calls A1 c1 l1 w2 (Kd.C_below HR1.out hB) hc1).mono ?_
 rintro e w3 ⟨rfl, hb⟩
 rw [hz0]
 have g1 := (hb.cell (World.block_lt_of_cell? w2 _ h1)).trans h1
 have g2 := (hb.cell (World.block_lt_of_cell? w2 _ h2)).trans h2
 have hs3 : w2.heap.size ≤ w3.heap.size := hb.size
 have hB3 := below_step hB hb
 clear h1 h2 hb hB
 cases z0 with
 | true =>
  rw [if_pos (by simp)] at hS
  injection hS with e1 hS
  injection hS with e2 e3
  subst e1 e2 e3
  have HB := Aside0.mk hB3
  clear hB3
  go_wp2_with fail
  go_ret3
  exact ⟨rfl, HB.out⟩
 | false =>
 have HB := Aside0.mk hB3
 clear hB3
 have G1 := Aside0.mk g1
 have G2 := Aside0.mk g2
 go_wp2_with fail
 refine (anyL_calls w.heap.size (w.heap.size + 1) l0.length A0 c0 l0 w3 (Kd.C_below HR0.out HB.out) hc0 (by omega) G1.out G2.out).mono ?_
 rintro e w4 ⟨rfl, hb⟩
 rw [hz1]
 have h1 := (hb.cell (World.block_lt_of_cell? w3 _ g1)).trans g1
 have hB4 := below_step HB.out hb
 have hs4 : w.heap.size < w4.heap.size := by have := hb.size; omega
 clear hb g1 g2 G1 G2 HB
 have HB := Aside0.mk hB4
 clear hB4
 cases z1 with
 | true =>
  rw [if_pos (by simp)] at hS
  injection hS with e1 hS
  injection hS with e2 e3
  subst e1 e2 e3
  go_wp2_with fail
  go_ret3
  exact ⟨rfl, HB.out⟩
 | false =>
 rw [if_neg (by simp)] at hS
 by_cases hk : l0.length - 1 ≤ l1.length
 ·rw [if_pos hk] at hS
  injection hS with e1 hS
  injection hS with e2 e3
  subst e1 e2 e3
  have d2 : decide ((l0.length : Int) - 1 ≤ (l1.length : Int)) = true := decide_eq_true (by omega)
  go_wp2_with fail
  go_ret3
  exact ⟨rfl, HB.out⟩
 rw [if_neg hk] at hS
 have d2 : decide ((l0.length : Int) - 1 ≤ (l1.length : Int)) = false := decide_eq_false (by omega)
 go_wp2_with fail
 have hn := hn1
 have hn' := hn0
 have H1 := Aside0.mk h1
 have HS4 := Aside0.mk hs4
 clear h1 hs4
 refine (clone_calls A1 c1 l1 w4 (Kd.C_below HR1.out HB.out) hc1 (by omega)).mono ?_
 rintro e w5 ⟨v5, rfl, ho, hb⟩
 have HO := Aside0.mk ho
 have HB4 := Aside0.mk hb
 clear ho hb
 go_wp2_with (first | ((with_reducible refine gate_builtin (b := .append) (xs := #[.tmp 41, .tmp 42]) rfl ?_); at_builtin; refine Kd.R_append (Kd.int .i64) (w0 := w4) w4.heap.size rfl (.tmp 41) (.tmp 42) 22 3 (.int .i64 0) 8 rfl Try.underlying22 info3 rfl (by decide) (by omega) v5 l1 0 [.int .i64 0] (fun _ => True) (fun _ => False) rfl rfl rfl (fun _ hk => hk.elim) (fun _ _ => trivial) HO.out HB4.out (below_size HB4.out) (by omega) ?_; intro vE w6 ho hb hg hat; clear HO HB4; have HO := Aside0.mk ho; have HB4 := Aside0.mk hb; clear ho hb hg hat; obtain ⟨Ae, ce, ee⟩ := Kd.R_slice HO.out; subst ee))
 have hext : ∀ j : Nat, j ≤ l1.length → rd (l1 ++ [0]) (j : Int) = l1.getD j 0 := by
  intro j hj
  rcases Nat.lt_or_ge j l1.length with h | h
  ·simp [rd, List.getD_eq_getElem?_getD, List.getElem?_append, h]
  ·have : j = l1.length := by omega
   subst this
   simp [rd, List.getD_eq_getElem?_getD]
 have hEl : (l1 ++ [(0 : Int)]).length = l1.length + 1 := by simp
 have HC4 := Aside0.mk (Kd.C_below HR0.out HB.out)
 have NK := Aside0.mk (show l1.length ≤ 10 by omega)
 have HC4 := Aside0.mk (Kd.C_below HR0.out HB.out)
 have NK := Aside0.mk (show l1.length ≤ 10 by omega)
 have HC4 := Aside0.mk (Kd.C_below HR0.out HB.out)
 have NK := Aside0.mk (show l1.length ≤ 10 by omega)
 go_loopw [10, 11, 45] (fun v10 v11 v45 wr => ∃ m : Nat, m ≤ l1.length + 1 ∧ v45 = .int .i64 (m : Int) ∧
   Kd.R (Kd.int .i64) 3 wr w4.heap.size (fun k => some k ≠ v10.ownBlock ∧ some k ≠ v11.ownBlock) (.slice Ae (l1 ++ [(0 : Int)]).length ce) (l1 ++ [0]) ∧
   Kd.R (Kd.int .i64) 3 wr w4.heap.size (fun k => some k ≠ v11.ownBlock) v10 (losP l0 l1 (l0.length - 1) l1.length m) ∧
   Kd.R (Kd.int .i64) 3 wr w4.heap.size (fun _ => True) v11 (hisP l0 l1 (l0.length - 1) l1.length m) ∧ Below w4.heap.size w4 wr)
  (fun _ _ v45 _ => l1.length + 1 - (intOf v45).toNat)
 case atStart => exact ⟨0, by omega, rfl, Kd.R_mono HO.out (fun k _ => by simp [Value.ownBlock]), Kd.R_nil _ _ _ _ _, Kd.R_nil _ _ _ _ _, HB4.out⟩
 case round =>
  clear HO HB4
  obtain ⟨m, hm, rfl, hE, h10, h11, hb⟩ := hrel
  have HB4 := Aside0.mk hb
  have hc7 : wr.cell? ⟨w.heap.size, 0, none⟩ = some (.int .i64 ((l0.length : Int) - 1)) := (hb.cell HS4.out).trans H1.out
  clear hb
  by_cases hlt : (m : Int) < (l1.length : Int) + 1
  ·have HV := Aside0.mk (val_bd hz0 m)
   have LL := Aside0.mk (losP_len l0 l1 (l0.length - 1) l1.length m)
   have hlt1 : decide ((m : Int) < (l1.length : Int) + 1) = true := decide_eq_true hlt
   have hlt2 : decide ((m : Int) < ((l1 ++ [(0 : Int)]).length : Int)) = true := decide_eq_true (by rw [hEl]; omega)
   have hlt3 : (m : Int) < ((l1 ++ [(0 : Int)]).length : Int) := by rw [hEl]; omega
   obtain ⟨ade, ee, hxe⟩ := Kd.at_int (Kd.R_reads' hE).2.2 (m : Int) (by omega) hlt3
   subst ee
   rw [hext m (by omega)] at hxe
   simp only [Int.toNat_natCast] at hxe
   have hI := rowAt_lt l0.length l1.length m (by omega) (by omega)
   have hi7_ := rowAt_cases l0.length l1.length m (by omega)
   obtain ⟨i, hi⟩ : ∃ i : Nat, rowAt (l0.length - 1) l1.length m = i := ⟨_, rfl⟩
   rw [hi] at hI hi7_
   have hil := hI
   have hkl : l1.length < l0.length := by omega
   obtain ⟨b1, b2, b3, b4⟩ := cel_bd hz1 i l1.length hil hkl
   obtain ⟨q1, q2, q3, q4⟩ := cel_bd hz1 l1.length i hkl hil
   have HE := Aside0.mk hE
   have H10 := Aside0.mk h10
   have H11 := Aside0.mk h11
   clear hE h10 h11
   have slo : losP l0 l1 (l0.length - 1) l1.length (m + 1) = if cel l0 i l1.length < FREE then losP l0 l1 (l0.length - 1) l1.length m ++ [l1.getD m 0 - cel l0 i l1.length] else losP l0 l1 (l0.length - 1) l1.length m := by rw [← hi]; rfl
   have shi : hisP l0 l1 (l0.length - 1) l1.length (m + 1) = if cel l0 l1.length i < FREE then hisP l0 l1 (l0.length - 1) l1.length m ++ [l1.getD m 0 + cel l0 l1.length i] else hisP l0 l1 (l0.length - 1) l1.length m := by rw [← hi]; rfl
   have Slo := Aside0.mk slo
   have Shi := Aside0.mk shi
   clear slo shi
   obtain ⟨ad, A1_, c1_, e1, g1, gl1, gc1⟩ := at_L4 HC4.out (i : Int) (by omega) (by omega)
   obtain ⟨ad', A2_, c2_, e2, g2, gl2, gc2⟩ := at_L4 HC4.out (l1.length : Int) (by omega) (by omega)
   subst e1
   injection e2 with e2
   subst e2
   obtain ⟨ad1, f1, g3⟩ := Kd.at_int gc1 (l1.length : Int) (by omega) (by rw [b1]; omega)
   obtain ⟨ad2, f2, g4⟩ := Kd.at_int gc2 (i : Int) (by omega) (by rw [q1]; omega)
   subst f1 f2
   rw [b2] at g3
   rw [q2] at g4
   rw [b1] at g1
   rw [q1] at g2
   simp only [Int.toNat_natCast] at g1 g2 g3 g4
   clear b1 b2 q1 q2 gl1 gl2 gc1 gc2
   have r1 : (i : Int) < (l0.length : Int) := by omega
   have r2 : (l1.length : Int) < (l0.length : Int) := by omega
   generalize hx : cel l0 i l1.length = x at g3 b3 b4 Slo
   generalize hy : cel l0 l1.length i = y at g4 q3 q4 Shi
   generalize hvv : l1.getD m 0 = v at hxe HV Slo Shi
   have HX := Aside0.mk (And.intro b3 b4)
   have HY := Aside0.mk (And.intro q3 q4)
   clear b3 b4 q3 q4 hx hy hvv
   have G1 := Aside0.mk g1
   have G2 := Aside0.mk g2
   have G3 := Aside0.mk g3
   have G4 := Aside0.mk g4
   clear g1 g2 g3 g4
   have g1 := (HB4.out.cell (World.block_lt_of_cell? w4 _ G1.out)).trans G1.out
   have g2 := (HB4.out.cell (World.block_lt_of_cell? w4 _ G2.out)).trans G2.out
   have g3 := (HB4.out.cell (World.block_lt_of_cell? w4 _ G3.out)).trans G3.out
   have g4 := (HB4.out.cell (World.block_lt_of_cell? w4 _ G4.out)).trans G4.out
   have hi7 := hi7_
   rcases hi7 with ⟨hmk, him⟩ | ⟨hmk, him⟩
   ·have dq : ((m : Int) == (l1.length : Int)) = true := by simp [hmk]
    have dq2 : decide ((m : Int) = (l1.length : Int)) = true := decide_eq_true (by omega)
    rw [him] at hc7
    clear him
    have HMK := Aside0.mk hmk
    have HI7 := Aside0.mk hi7_
    clear hmk hi7_
    by_cases hx1 : x < 1099511627776
    ·have dx : decide (x < 1099511627776) = true := decide_eq_true hx1
     by_cases hy1 : y < 1099511627776
     ·have dy : decide (y < 1099511627776) = true := decide_eq_true hy1
      go_wp2_with (first | ((with_reducible refine gate_builtin (b := .append) (xs := #[.tmp 62, .tmp 72]) rfl ?_); at_builtin; refine Kd.R_append (Kd.int .i64) (w0 := w4) w4.heap.size rfl (.tmp 62) (.tmp 72) 22 3 (.int .i64 0) 8 rfl Try.underlying22 info3 rfl (by decide) (by omega) u10 (losP l0 l1 (l0.length - 1) l1.length m) (wrap64 (v - x)) [.int .i64 (wrap64 (v - x))] (fun k => some k ≠ u11.ownBlock) (fun _ => False) rfl rfl rfl (fun _ hk => hk.elim) (Kd.fresh' (Kd.R_lt H11.out)) H10.out HB4.out ?aS ?aL ?_; (case aS => exact below_size HB4.out); (case aL => have := LL.out.1; have := NK.out; omega); intro v7 w7 ho hb hg hat; have n_ := lo_after HE.out H11.out H10.out.1 hg hat; clear g1 g2 g3 g4; have g2 := (hb.cell (World.block_lt_of_cell? w4 _ G2.out)).trans G2.out; have g4 := (hb.cell (World.block_lt_of_cell? w4 _ G4.out)).trans G4.out; clear HE H10 H11 HB4 hg hat; have HE := Aside0.mk n_.1; have H10 := Aside0.mk ho; have H11 := Aside0.mk n_.2; have HB4 := Aside0.mk hb; clear ho hb n_) | ((with_reducible refine gate_builtin (b := .append) (xs := #[.tmp 82, .tmp 92]) rfl ?_); at_builtin; refine Kd.R_append (Kd.int .i64) (w0 := w4) w4.heap.size rfl (.tmp 82) (.tmp 92) 22 3 (.int .i64 0) 8 rfl Try.underlying22 info3 rfl (by decide) (by omega) u11 (hisP l0 l1 (l0.length - 1) l1.length m) (wrap64 (v + y)) [.int .i64 (wrap64 (v + y))] (fun _ => True) (fun k => False) rfl rfl rfl (fun _ hk => hk.elim) (fun _ _ => trivial) H11.out HB4.out ?aS ?aL ?_; (case aS => exact below_size HB4.out); (case aL => have := LL.out.2; have := NK.out; omega); intro v8 w8 ho hb hg hat; have n_ := hi_after HE.out H10.out hg hat; clear HE H10 H11 HB4 hg hat; have HE := Aside0.mk n_.1; have H10 := Aside0.mk n_.2; have H11 := Aside0.mk ho; have HB4 := Aside0.mk hb; clear ho hb n_))
      go_roundw
      case rel =>
       go_light
       refine ⟨m + 1, by omega, by simp, HE.out, ?_, ?_, HB4.out⟩
       ·have e_ := wrap_of (v - x) (by have := HV.out; have := HX.out; omega) (by have := HV.out; have := HX.out; omega)
        have h_ := H10.out
        rw [e_] at h_
        rw [Slo.out, if_pos (show x < FREE from hx1)]; exact h_
       ·have e_ := wrap_of (v + y) (by have := HV.out; have := HY.out; omega) (by have := HV.out; have := HY.out; omega)
        have h_ := H11.out
        rw [e_] at h_
        rw [Shi.out, if_pos (show y < FREE from hy1)]; exact h_
      case measure => go_light; simp [intOf]; omega
     ·have dy : decide (y < 1099511627776) = false := decide_eq_false hy1
      go_wp2_with (first | ((with_reducible refine gate_builtin (b := .append) (xs := #[.tmp 62, .tmp 72]) rfl ?_); at_builtin; refine Kd.R_append (Kd.int .i64) (w0 := w4) w4.heap.size rfl (.tmp 62) (.tmp 72) 22 3 (.int .i64 0) 8 rfl Try.underlying22 info3 rfl (by decide) (by omega) u10 (losP l0 l1 (l0.length - 1) l1.length m) (wrap64 (v - x)) [.int .i64 (wrap64 (v - x))] (fun k => some k ≠ u11.ownBlock) (fun _ => False) rfl rfl rfl (fun _ hk => hk.elim) (Kd.fresh' (Kd.R_lt H11.out)) H10.out HB4.out ?aS ?aL ?_; (case aS => exact below_size HB4.out); (case aL => have := LL.out.1; have := NK.out; omega); intro v7 w7 ho hb hg hat; have n_ := lo_after HE.out H11.out H10.out.1 hg hat; clear g1 g2 g3 g4; have g2 := (hb.cell (World.block_lt_of_cell? w4 _ G2.out)).trans G2.out; have g4 := (hb.cell (World.block_lt_of_cell? w4 _ G4.out)).trans G4.out; clear HE H10 H11 HB4 hg hat; have HE := Aside0.mk n_.1; have H10 := Aside0.mk ho; have H11 := Aside0.mk n_.2; have HB4 := Aside0.mk hb; clear ho hb n_))
      go_roundw
      case rel =>
       go_light
       refine ⟨m + 1, by omega, by simp, HE.out, ?_, ?_, HB4.out⟩
       ·have e_ := wrap_of (v - x) (by have := HV.out; have := HX.out; omega) (by have := HV.out; have := HX.out; omega)
        have h_ := H10.out
        rw [e_] at h_
        rw [Slo.out, if_pos (show x < FREE from hx1)]; exact h_
       ·rw [Shi.out, if_neg (show ¬ y < FREE from hy1)]; exact H11.out
      case measure => go_light; simp [intOf]; omega
    ·have dx : decide (x < 1099511627776) = false := decide_eq_false hx1
     by_cases hy1 : y < 1099511627776
     ·have dy : decide (y < 1099511627776) = true := decide_eq_true hy1
      go_wp2_with (first | ((with_reducible refine gate_builtin (b := .append) (xs := #[.tmp 82, .tmp 92]) rfl ?_); at_builtin; refine Kd.R_append (Kd.int .i64) (w0 := w4) w4.heap.size rfl (.tmp 82) (.tmp 92) 22 3 (.int .i64 0) 8 rfl Try.underlying22 info3 rfl (by decide) (by omega) u11 (hisP l0 l1 (l0.length - 1) l1.length m) (wrap64 (v + y)) [.int .i64 (wrap64 (v + y))] (fun _ => True) (fun k => False) rfl rfl rfl (fun _ hk => hk.elim) (fun _ _ => trivial) H11.out HB4.out ?aS ?aL ?_; (case aS => exact below_size HB4.out); (case aL => have := LL.out.2; have := NK.out; omega); intro v8 w8 ho hb hg hat; have n_ := hi_after HE.out H10.out hg hat; clear HE H10 H11 HB4 hg hat; have HE := Aside0.mk n_.1; have H10 := Aside0.mk n_.2; have H11 := Aside0.mk ho; have HB4 := Aside0.mk hb; clear ho hb n_))
      go_roundw
      case rel =>
       go_light
       refine ⟨m + 1, by omega, by simp, HE.out, ?_, ?_, HB4.out⟩
       ·rw [Slo.out, if_neg (show ¬ x < FREE from hx1)]; exact H10.out
       ·have e_ := wrap_of (v + y) (by have := HV.out; have := HY.out; omega) (by have := HV.out; have := HY.out; omega)
        have h_ := H11.out
        rw [e_] at h_
        rw [Shi.out, if_pos (show y < FREE from hy1)]; exact h_
      case measure => go_light; simp [intOf]; omega
     ·have dy : decide (y < 1099511627776) = false := decide_eq_false hy1
      go_wp2_with fail
      go_roundw
      case rel =>
       go_light
       refine ⟨m + 1, by omega, by simp, HE.out, ?_, ?_, HB4.out⟩
       ·rw [Slo.out, if_neg (show ¬ x < FREE from hx1)]; exact H10.out
       ·rw [Shi.out, if_neg (show ¬ y < FREE from hy1)]; exact H11.out
      case measure => go_light; simp [intOf]; omega
   ·subst him
    have dq : ((i : Int) == (l1.length : Int)) = false := by simp; omega
    have dq2 : decide ((i : Int) = (l1.length : Int)) = false := decide_eq_false (by omega)
    have dq3 : ¬ (i : Int) = (l1.length : Int) := by omega
    have HMK := Aside0.mk hmk
    have HI7 := Aside0.mk hi7_
    clear hmk hi7_
    by_cases hx1 : x < 1099511627776
    ·have dx : decide (x < 1099511627776) = true := decide_eq_true hx1
     by_cases hy1 : y < 1099511627776
     ·have dy : decide (y < 1099511627776) = true := decide_eq_true hy1
      go_wp2_with (first | ((with_reducible refine gate_builtin (b := .append) (xs := #[.tmp 62, .tmp 72]) rfl ?_); at_builtin; refine Kd.R_append (Kd.int .i64) (w0 := w4) w4.heap.size rfl (.tmp 62) (.tmp 72) 22 3 (.int .i64 0) 8 rfl Try.underlying22 info3 rfl (by decide) (by omega) u10 (losP l0 l1 (l0.length - 1) l1.length i) (wrap64 (v - x)) [.int .i64 (wrap64 (v - x))] (fun k => some k ≠ u11.ownBlock) (fun _ => False) rfl rfl rfl (fun _ hk => hk.elim) (Kd.fresh' (Kd.R_lt H11.out)) H10.out HB4.out ?aS ?aL ?_; (case aS => exact below_size HB4.out); (case aL => have := LL.out.1; have := NK.out; omega); intro v7 w7 ho hb hg hat; have n_ := lo_after HE.out H11.out H10.out.1 hg hat; clear g1 g2 g3 g4; have g2 := (hb.cell (World.block_lt_of_cell? w4 _ G2.out)).trans G2.out; have g4 := (hb.cell (World.block_lt_of_cell? w4 _ G4.out)).trans G4.out; clear HE H10 H11 HB4 hg hat; have HE := Aside0.mk n_.1; have H10 := Aside0.mk ho; have H11 := Aside0.mk n_.2; have HB4 := Aside0.mk hb; clear ho hb n_) | ((with_reducible refine gate_builtin (b := .append) (xs := #[.tmp 82, .tmp 92]) rfl ?_); at_builtin; refine Kd.R_append (Kd.int .i64) (w0 := w4) w4.heap.size rfl (.tmp 82) (.tmp 92) 22 3 (.int .i64 0) 8 rfl Try.underlying22 info3 rfl (by decide) (by omega) u11 (hisP l0 l1 (l0.length - 1) l1.length i) (wrap64 (v + y)) [.int .i64 (wrap64 (v + y))] (fun _ => True) (fun k => False) rfl rfl rfl (fun _ hk => hk.elim) (fun _ _ => trivial) H11.out HB4.out ?aS ?aL ?_; (case aS => exact below_size HB4.out); (case aL => have := LL.out.2; have := NK.out; omega); intro v8 w8 ho hb hg hat; have n_ := hi_after HE.out H10.out hg hat; clear HE H10 H11 HB4 hg hat; have HE := Aside0.mk n_.1; have H10 := Aside0.mk n_.2; have H11 := Aside0.mk ho; have HB4 := Aside0.mk hb; clear ho hb n_))
      go_roundw
      case rel =>
       go_light
       refine ⟨i + 1, by omega, by simp, HE.out, ?_, ?_, HB4.out⟩
       ·have e_ := wrap_of (v - x) (by have := HV.out; have := HX.out; omega) (by have := HV.out; have := HX.out; omega)
        have h_ := H10.out
        rw [e_] at h_
        rw [Slo.out, if_pos (show x < FREE from hx1)]; exact h_
       ·have e_ := wrap_of (v + y) (by have := HV.out; have := HY.out; omega) (by have := HV.out; have := HY.out; omega)
        have h_ := H11.out
        rw [e_] at h_
        rw [Shi.out, if_pos (show y < FREE from hy1)]; exact h_
      case measure => go_light; simp [intOf]; omega
     ·have dy : decide (y < 1099511627776) = false := decide_eq_false hy1
      go_wp2_with (first | ((with_reducible refine gate_builtin (b := .append) (xs := #[.tmp 62, .tmp 72]) rfl ?_); at_builtin; refine Kd.R_append (Kd.int .i64) (w0 := w4) w4.heap.size rfl (.tmp 62) (.tmp 72) 22 3 (.int .i64 0) 8 rfl Try.underlying22 info3 rfl (by decide) (by omega) u10 (losP l0 l1 (l0.length - 1) l1.length i) (wrap64 (v - x)) [.int .i64 (wrap64 (v - x))] (fun k => some k ≠ u11.ownBlock) (fun _ => False) rfl rfl rfl (fun _ hk => hk.elim) (Kd.fresh' (Kd.R_lt H11.out)) H10.out HB4.out ?aS ?aL ?_; (case aS => exact below_size HB4.out); (case aL => have := LL.out.1; have := NK.out; omega); intro v7 w7 ho hb hg hat; have n_ := lo_after HE.out H11.out H10.out.1 hg hat; clear g1 g2 g3 g4; have g2 := (hb.cell (World.block_lt_of_cell? w4 _ G2.out)).trans G2.out; have g4 := (hb.cell (World.block_lt_of_cell? w4 _ G4.out)).trans G4.out; clear HE H10 H11 HB4 hg hat; have HE := Aside0.mk n_.1; have H10 := Aside0.mk ho; have H11 := Aside0.mk n_.2; have HB4 := Aside0.mk hb; clear ho hb n_))
      go_roundw
      case rel =>
       go_light
       refine ⟨i + 1, by omega, by simp, HE.out, ?_, ?_, HB4.out⟩
       ·have e_ := wrap_of (v - x) (by have := HV.out; have := HX.out; omega) (by have := HV.out; have := HX.out; omega)
        have h_ := H10.out
        rw [e_] at h_
        rw [Slo.out, if_pos (show x < FREE from hx1)]; exact h_
       ·rw [Shi.out, if_neg (show ¬ y < FREE from hy1)]; exact H11.out
      case measure => go_light; simp [intOf]; omega
    ·have dx : decide (x < 1099511627776) = false := decide_eq_false hx1
     by_cases hy1 : y < 1099511627776
     ·have dy : decide (y < 1099511627776) = true := decide_eq_true hy1
      go_wp2_with (first | ((with_reducible refine gate_builtin (b := .append) (xs := #[.tmp 82, .tmp 92]) rfl ?_); at_builtin; refine Kd.R_append (Kd.int .i64) (w0 := w4) w4.heap.size rfl (.tmp 82) (.tmp 92) 22 3 (.int .i64 0) 8 rfl Try.underlying22 info3 rfl (by decide) (by omega) u11 (hisP l0 l1 (l0.length - 1) l1.length i) (wrap64 (v + y)) [.int .i64 (wrap64 (v + y))] (fun _ => True) (fun k => False) rfl rfl rfl (fun _ hk => hk.elim) (fun _ _ => trivial) H11.out HB4.out ?aS ?aL ?_; (case aS => exact below_size HB4.out); (case aL => have := LL.out.2; have := NK.out; omega); intro v8 w8 ho hb hg hat; have n_ := hi_after HE.out H10.out hg hat; clear HE H10 H11 HB4 hg hat; have HE := Aside0.mk n_.1; have H10 := Aside0.mk n_.2; have H11 := Aside0.mk ho; have HB4 := Aside0.mk hb; clear ho hb n_))
      go_roundw
      case rel =>
       go_light
       refine ⟨i + 1, by omega, by simp, HE.out, ?_, ?_, HB4.out⟩
       ·rw [Slo.out, if_neg (show ¬ x < FREE from hx1)]; exact H10.out
       ·have e_ := wrap_of (v + y) (by have := HV.out; have := HY.out; omega) (by have := HV.out; have := HY.out; omega)
        have h_ := H11.out
        rw [e_] at h_
        rw [Shi.out, if_pos (show y < FREE from hy1)]; exact h_
      case measure => go_light; simp [intOf]; omega
     ·have dy : decide (y < 1099511627776) = false := decide_eq_false hy1
      go_wp2_with fail
      go_roundw
      case rel =>
       go_light
       refine ⟨i + 1, by omega, by simp, HE.out, ?_, ?_, HB4.out⟩
       ·rw [Slo.out, if_neg (show ¬ x < FREE from hx1)]; exact H10.out
       ·rw [Shi.out, if_neg (show ¬ y < FREE from hy1)]; exact H11.out
      case measure => go_light; simp [intOf]; omega
  ·have hlt1 : decide ((m : Int) < (l1.length : Int) + 1) = false := decide_eq_false hlt
   have hlt2 : decide ((m : Int) < ((l1 ++ [(0 : Int)]).length : Int)) = false := decide_eq_false (by rw [hEl]; omega)
   have hm1 : m = l1.length + 1 := by omega
   rw [hm1] at h10 h11
   clear hE hm1 hm
   rw [loOf_losP, hiOf_hisP] at hS
   generalize losP l0 l1 (l0.length - 1) l1.length (l1.length + 1) = L at hS h10
   generalize hisP l0 l1 (l0.length - 1) l1.length (l1.length + 1) = H at hS h11
   obtain ⟨A10, c10, e10⟩ := Kd.R_slice h10
   obtain ⟨A11, c11, e11⟩ := Kd.R_slice h11
   subst e10 e11
   obtain ⟨-, hc10, hC10⟩ := Kd.R_reads' h10
   obtain ⟨-, hc11, hC11⟩ := Kd.R_reads' h11
   have HBE := Aside0.mk (below_step HB.out HB4.out)
   clear h10 h11 hc7
   have HC10 := Aside0.mk hC10
   have HC11 := Aside0.mk hC11
   clear hC10 hC11
   have eL := ends_of maxOf (-FREE) L
   have eH := ends_of minOf FREE H
   generalize (L.head?.map (fun z => maxOf z L)).getD (-FREE) = lo at hS eL
   generalize (H.head?.map (fun z => minOf z H)).getD FREE = hi at hS eH
   rcases eL with ⟨eL1, eL2⟩ | ⟨eL1, eL2⟩
   ·subst eL1
    have eL2 : lo = -1099511627776 := eL2
    subst eL2
    rcases eH with ⟨eH1, eH2⟩ | ⟨eH1, eH2⟩
    ·subst eH1
     have eH2 : hi = 1099511627776 := eH2
     subst eH2
     by_cases hlh : (1099511627776 : Int) < (-1099511627776 : Int)
     ·rw [if_pos hlh] at hS
      have d5 : decide ((1099511627776 : Int) < (-1099511627776 : Int)) = true := decide_eq_true hlh
      exact absurd hlh (by omega)
     ·rw [if_neg hlh] at hS
      have d5 : decide ((1099511627776 : Int) < (-1099511627776 : Int)) = false := decide_eq_false hlh
      injection hS with e1 hS
      injection hS with e2 e3
      subst e1 e2 e3
      go_wp2_with fail
      go_ret3
      exact ⟨rfl, HBE.out⟩
    ·have d4 : decide (0 < (H.length : Int)) = true := decide_eq_true (by omega)
     have eH2 : hi = minOf (rd H 0) H := eH2
     subst eH2
     by_cases hlh : minOf (rd H 0) H < (-1099511627776 : Int)
     ·rw [if_pos hlh] at hS
      have d5 : decide (minOf (rd H 0) H < (-1099511627776 : Int)) = true := decide_eq_true hlh
      injection hS with e1 hS
      injection hS with e2 e3
      subst e1 e2 e3
      go_wp2_with fail
      refine (min_calls A11 c11 H wr HC11.out hc11 eH1).mono ?_
      rintro e w' ⟨rfl, e_⟩
      subst w'
      go_wp2_with fail
      go_ret3
      exact ⟨rfl, HBE.out⟩
     ·rw [if_neg hlh] at hS
      have d5 : decide (minOf (rd H 0) H < (-1099511627776 : Int)) = false := decide_eq_false hlh
      injection hS with e1 hS
      injection hS with e2 e3
      subst e1 e2 e3
      go_wp2_with fail
      refine (min_calls A11 c11 H wr HC11.out hc11 eH1).mono ?_
      rintro e w' ⟨rfl, e_⟩
      subst w'
      go_wp2_with fail
      go_ret3
      exact ⟨rfl, HBE.out⟩
   ·have d3 : decide (0 < (L.length : Int)) = true := decide_eq_true (by omega)
    have eL2 : lo = maxOf (rd L 0) L := eL2
    subst eL2
    rcases eH with ⟨eH1, eH2⟩ | ⟨eH1, eH2⟩
    ·subst eH1
     have eH2 : hi = 1099511627776 := eH2
     subst eH2
     by_cases hlh : (1099511627776 : Int) < maxOf (rd L 0) L
     ·rw [if_pos hlh] at hS
      have d5 : decide ((1099511627776 : Int) < maxOf (rd L 0) L) = true := decide_eq_true hlh
      injection hS with e1 hS
      injection hS with e2 e3
      subst e1 e2 e3
      go_wp2_with fail
      refine (max_calls A10 c10 L wr HC10.out hc10 eL1).mono ?_
      rintro e w' ⟨rfl, e_⟩
      subst w'
      go_wp2_with fail
      go_ret3
      exact ⟨rfl, HBE.out⟩
     ·rw [if_neg hlh] at hS
      have d5 : decide ((1099511627776 : Int) < maxOf (rd L 0) L) = false := decide_eq_false hlh
      injection hS with e1 hS
      injection hS with e2 e3
      subst e1 e2 e3
      go_wp2_with fail
      refine (max_calls A10 c10 L wr HC10.out hc10 eL1).mono ?_
      rintro e w' ⟨rfl, e_⟩
      subst w'
      go_wp2_with fail
      go_ret3
      exact ⟨rfl, HBE.out⟩
    ·have d4 : decide (0 < (H.length : Int)) = true := decide_eq_true (by omega)
     have eH2 : hi = minOf (rd H 0) H := eH2
     subst eH2
     by_cases hlh : minOf (rd H 0) H < maxOf (rd L 0) L
     ·rw [if_pos hlh] at hS
      have d5 : decide (minOf (rd H 0) H < maxOf (rd L 0) L) = true := decide_eq_true hlh
      injection hS with e1 hS
      injection hS with e2 e3
      subst e1 e2 e3
      go_wp2_with fail
      refine (max_calls A10 c10 L wr HC10.out hc10 eL1).mono ?_
      rintro e w' ⟨rfl, e_⟩
      subst w'
      go_wp2_with fail
      refine (min_calls A11 c11 H wr HC11.out hc11 eH1).mono ?_
      rintro e w' ⟨rfl, e_⟩
      subst w'
      go_wp2_with fail
      go_ret3
      exact ⟨rfl, HBE.out⟩
     ·rw [if_neg hlh] at hS
      have d5 : decide (minOf (rd H 0) H < maxOf (rd L 0) L) = false := decide_eq_false hlh
      injection hS with e1 hS
      injection hS with e2 e3
      subst e1 e2 e3
      go_wp2_with fail
      refine (max_calls A10 c10 L wr HC10.out hc10 eL1).mono ?_
      rintro e w' ⟨rfl, e_⟩
      subst w'
      go_wp2_with fail
      refine (min_calls A11 c11 H wr HC11.out hc11 eH1).mono ?_
      rintro e w' ⟨rfl, e_⟩
      subst w'
      go_wp2_with fail
      go_ret3
      exact ⟨rfl, HBE.out⟩
end Go.Proofs.Ytcnkjcbjlopkmaa.Q
