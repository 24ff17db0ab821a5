/- The reference's Range computes the plain function. -/
import Derived.Test.YtcnkjcbjlopkmaaSam
import Derived.Test.YtcnkjcbjlopkmaaRan
import Derived.Test.YtcnkjcbjlopkmaaQ15
namespace Go.Proofs.Ytcnkjcbjlopkmaa.Q
open Go.RowKit Go.Proofs.YtcnkjcbjlopkmaaW.PrintWords Go.Proofs.YtcnkjcbjlopkmaaW.PrintLast Go.Proofs.YtcnkjcbjlopkmaaW.PrintMore
set_option linter.unusedVariables false
set_option linter.unusedSimpArgs false
theorem rdI {l : List Int} {i : Nat} (h : i < l.length) : rd l (i : Int) = l[i] := by simp [rd, List.getD_eq_getElem?_getD, h]
theorem wild_iff (x : Int) : wild x = true ↔ x < -1099511627776 ∨ x > 1099511627776 := by
 show (decide (x < -(1099511627776 : Int)) || decide (x > (1099511627776 : Int))) = true ↔ _
 simp
section
variable {c : List (List Int)} {vs : List Int} {r : Int × Int × Int}
theorem g_l2 (h11 : c.length ≤ 11) (h1 : 1 ≤ c.length) (hl : vs.length ≤ 1000) : ∀ d i, i + d = vs.length →
  ((vs.drop i).any wild = false → Ev (fun k => r14_Range.l2 k c vs ((c.length : Int) - 1) (vs.length : Int)) r) → ((vs.drop i).any wild = true → r = (0, 0, 1)) →
  Ev (fun k => r14_Range.l2 k c vs ((c.length : Int) - 1) (i : Int)) r
 | 0, i, hi, ha, hb => by
  rw [show i = vs.length by omega]
  exact ha (by rw [show i = vs.length by omega, List.drop_length]; rfl)
 | d + 1, i, hi, ha, hb => by
  have hlt : i < vs.length := by omega
  rw [List.drop_eq_getElem_cons hlt, List.any_cons] at ha hb
  by_cases hw : wild vs[i] = true
  ·have e := hb (by rw [hw]; rfl)
   subst e
   refine Ev.step (f := fun _ => some (0, 0, 1)) (fun k => ?_) (Ev.now _)
   unfold r14_Range.l2
   rw [rdI hlt, if_pos (by omega), if_pos (by omega)]
   rcases (wild_iff _).1 hw with h | h
   ·rw [if_pos h]
   ·rw [if_neg (by omega), if_pos h]
  ·have hn : ¬ (vs[i] < -1099511627776 ∨ vs[i] > 1099511627776) := fun hh => hw ((wild_iff _).2 hh)
   have hf : wild vs[i] = false := by simpa using hw
   simp only [hf, Bool.false_or] at ha hb
   refine Ev.step (fun k => ?_) (g_l2 h11 h1 hl d (i + 1) (by omega) ha hb)
   conv => lhs; unfold r14_Range.l2
   rw [rdI hlt, if_pos (by omega), if_pos (by omega), if_neg (by omega), if_neg (by omega), wrap_nat i (by omega)]
theorem g_l1 (h11 : c.length ≤ 11) (h1 : 1 ≤ c.length) {i : Nat} (hi : i < c.length) (hrow : c[i].length = c.length) : ∀ d k, k + d = c.length →
  ((c[i].drop k).any wild = false → Ev (fun f => r14_Range.l0 f c vs ((c.length : Int) - 1) ((i + 1 : Nat) : Int)) r) → ((c[i].drop k).any wild = true → r = (0, 0, 1)) →
  Ev (fun f => r14_Range.l1 f c vs ((c.length : Int) - 1) (i : Int) (k : Int)) r
 | 0, k, hk, ha, hb => by
  refine Ev.step (fun f => ?_) (ha (by rw [show k = c[i].length by omega, List.drop_length]; rfl))
  conv => lhs; unfold r14_Range.l1
  rw [if_neg (by omega), wrap_nat i (by omega)]
 | d + 1, k, hk, ha, hb => by
  have hlt : k < c[i].length := by omega
  rw [List.drop_eq_getElem_cons hlt, List.any_cons] at ha hb
  by_cases hw : wild c[i][k] = true
  ·have e := hb (by rw [hw]; rfl)
   subst e
   refine Ev.step (f := fun _ => some (0, 0, 1)) (fun f => ?_) (Ev.now _)
   unfold r14_Range.l1
   rw [rdL4 hi, rdI hlt, if_pos (by omega), if_pos (by omega), if_pos (by omega), if_pos (by omega), if_pos (by omega)]
   rcases (wild_iff _).1 hw with h | h
   ·rw [if_pos h]
   ·rw [if_neg (by omega), if_pos h]
  ·have hn : ¬ (c[i][k] < -1099511627776 ∨ c[i][k] > 1099511627776) := fun hh => hw ((wild_iff _).2 hh)
   have hf : wild c[i][k] = false := by simpa using hw
   simp only [hf, Bool.false_or] at ha hb
   refine Ev.step (fun f => ?_) (g_l1 h11 h1 hi hrow d (k + 1) (by omega) ha hb)
   conv => lhs; unfold r14_Range.l1
   rw [rdL4 hi, rdI hlt, if_pos (by omega), if_pos (by omega), if_pos (by omega), if_pos (by omega), if_pos (by omega), if_neg (by omega), if_neg (by omega), wrap_nat k (by omega)]
theorem g_l0 (h11 : c.length ≤ 11) (h1 : 1 ≤ c.length) : ∀ d i, i + d = c.length →
  ((c.drop i).any (badRow c.length) = false → Ev (fun f => r14_Range.l2 f c vs ((c.length : Int) - 1) 0) r) → ((c.drop i).any (badRow c.length) = true → r = (0, 0, 1)) →
  Ev (fun f => r14_Range.l0 f c vs ((c.length : Int) - 1) (i : Int)) r
 | 0, i, hi, ha, hb => by
  refine Ev.step (fun f => ?_) (ha (by rw [show i = c.length by omega, List.drop_length]; rfl))
  conv => lhs; unfold r14_Range.l0
  rw [if_neg (by omega)]
 | d + 1, i, hi, ha, hb => by
  have hlt : i < c.length := by omega
  rw [List.drop_eq_getElem_cons hlt, List.any_cons] at ha hb
  have ew : wrap64 ((c.length : Int) - 1 + 1) = (c.length : Int) := by rw [wrapOk _ (by omega) (by omega)]; omega
  by_cases hrow : c[i].length = c.length
  ·have hbr : badRow c.length c[i] = c[i].any wild := by simp [badRow, hrow]
   rw [hbr] at ha hb
   refine Ev.step (fun f => ?_) (g_l1 (r := r) (vs := vs) h11 h1 hlt hrow c.length 0 (by omega) (fun hw => ?_) (fun hw => ?_))
   ·conv => lhs; unfold r14_Range.l0
    rw [rdL4 hlt, if_pos (by omega), if_pos (by omega), if_pos (by omega), ew, if_pos (by rw [hrow])]
    rfl
   ·rw [List.drop_zero] at hw
    simp only [hw, Bool.false_or] at ha hb
    exact g_l0 h11 h1 d (i + 1) (by omega) ha hb
   ·rw [List.drop_zero] at hw
    exact hb (by rw [hw]; rfl)
  ·have hbr : badRow c.length c[i] = true := by simp [badRow, hrow]
   have e := hb (by rw [hbr]; rfl)
   subst e
   refine Ev.step (f := fun _ => some (0, 0, 1)) (fun f => ?_) (Ev.now _)
   unfold r14_Range.l0
   rw [rdL4 hlt, if_pos (by omega), if_pos (by omega), if_pos (by omega), ew, if_neg (by omega)]
end
def endS (lo hi : Option Int) : Int × Int × Int := if hi.getD FREE < lo.getD (-FREE) then (0, 0, 14) else (lo.getD (-FREE), hi.getD FREE, 0)
def upLo (lo : Option Int) (t : Int) : Int := match lo with | none => t | some y => if y < t then t else y
def dnHi (hh : Option Int) (t : Int) : Int := match hh with | none => t | some y => if t < y then t else y
theorem g_l3 {c : List (List Int)} {vs : List Int} (h11 : c.length ≤ 11) (hz1 : c.any (badRow c.length) = false) (hz0 : vs.any wild = false) (hk : vs.length + 1 < c.length) : ∀ d j, j + d = vs.length + 1 →
  Ev (fun f => r14_Range.l3 f c vs ((c.length : Int) - 1) (vs.length : Int) ((loOf c vs (c.length - 1) vs.length j).getD (-1099511627776)) ((hiOf c vs (c.length - 1) vs.length j).getD 1099511627776) (loOf c vs (c.length - 1) vs.length j).isSome (hiOf c vs (c.length - 1) vs.length j).isSome (j : Int))
   (endS (loOf c vs (c.length - 1) vs.length (vs.length + 1)) (hiOf c vs (c.length - 1) vs.length (vs.length + 1)))
 | 0, j, hj => by
  have e : j = vs.length + 1 := by omega
  subst e
  refine Ev.step (f := fun _ => some (endS (loOf c vs (c.length - 1) vs.length (vs.length + 1)) (hiOf c vs (c.length - 1) vs.length (vs.length + 1)))) (fun f => ?_) (Ev.now _)
  unfold r14_Range.l3
  rw [if_neg (by omega)]
  unfold endS FREE
  by_cases h : (hiOf c vs (c.length - 1) vs.length (vs.length + 1)).getD 1099511627776 < (loOf c vs (c.length - 1) vs.length (vs.length + 1)).getD (-1099511627776)
  ·rw [if_pos h, if_pos h]
  ·rw [if_neg h, if_neg h]
 | d + 1, j, hj => by
  have ih := g_l3 h11 hz1 hz0 hk d (j + 1) (by omega)
  have hi : rowAt (c.length - 1) vs.length j < c.length := rowAt_lt c.length vs.length j (by omega) (by omega)
  have hkl : vs.length < c.length := by omega
  have hv := val_bd hz0 j
  obtain ⟨b1, b2, b3, b4⟩ := cel_bd hz1 (rowAt (c.length - 1) vs.length j) vs.length hi hkl
  obtain ⟨q1, q2, q3, q4⟩ := cel_bd hz1 vs.length (rowAt (c.length - 1) vs.length j) hkl hi
  have hlo : loOf c vs (c.length - 1) vs.length (j + 1) = if cel c (rowAt (c.length - 1) vs.length j) vs.length < FREE then some (upLo (loOf c vs (c.length - 1) vs.length j) (vs.getD j 0 - cel c (rowAt (c.length - 1) vs.length j) vs.length)) else loOf c vs (c.length - 1) vs.length j := rfl
  have hhi : hiOf c vs (c.length - 1) vs.length (j + 1) = if cel c vs.length (rowAt (c.length - 1) vs.length j) < FREE then some (dnHi (hiOf c vs (c.length - 1) vs.length j) (vs.getD j 0 + cel c vs.length (rowAt (c.length - 1) vs.length j))) else hiOf c vs (c.length - 1) vs.length j := rfl
  rw [hlo, hhi] at ih
  generalize loOf c vs (c.length - 1) vs.length j = lo at ih ⊢
  generalize hiOf c vs (c.length - 1) vs.length j = hh at ih ⊢
  generalize endS (loOf c vs (c.length - 1) vs.length (vs.length + 1)) (hiOf c vs (c.length - 1) vs.length (vs.length + 1)) = res at ih ⊢
  generalize hx : cel c (rowAt (c.length - 1) vs.length j) vs.length = x at *
  generalize hy : cel c vs.length (rowAt (c.length - 1) vs.length j) = y at *
  generalize hvv : vs.getD j 0 = v at *
  have hrow : ((j : Int) < (vs.length : Int) → (j : Int) = (rowAt (c.length - 1) vs.length j : Nat) ∧ rd vs (j : Int) = v) ∧ (¬ (j : Int) < (vs.length : Int) → (c.length : Int) - 1 = (rowAt (c.length - 1) vs.length j : Nat) ∧ (0 : Int) = v) := by
   constructor
   ·intro h
    refine ⟨?_, ?_⟩
    ·unfold rowAt
     rw [if_neg (by omega)]
    ·rw [← hvv]
     simp [rd]
   ·intro h
    refine ⟨?_, ?_⟩
    ·unfold rowAt
     rw [if_pos (by omega)]
     omega
    ·rw [← hvv, List.getD_eq_getElem?_getD, List.getElem?_eq_none (by omega)]
     rfl
  generalize rowAt (c.length - 1) vs.length j = i at *
  have j6 : ∀ (lo' : Option Int), Ev (fun f => r14_Range.l3 f c vs ((c.length : Int) - 1) (vs.length : Int) (lo'.getD (-1099511627776)) ((if y < FREE then some (dnHi hh (v + y)) else hh).getD 1099511627776) lo'.isSome (if y < FREE then some (dnHi hh (v + y)) else hh).isSome ((j + 1 : Nat) : Int)) res →
    Ev (fun f => r14_Range.j6 f c vs ((c.length : Int) - 1) (vs.length : Int) (lo'.getD (-1099511627776)) (hh.getD 1099511627776) lo'.isSome hh.isSome (j : Int) (i : Int) v) res := by
   intro lo' h
   refine Ev.step (fun f => ?_) h
   conv => lhs; unfold r14_Range.j6
   rw [q1, q2, if_pos (by omega), if_pos (by omega), if_pos (by omega), if_pos (by omega), wrap_nat j (by omega), wrapOk (v + y) (by omega) (by omega)]
   by_cases hyf : y < FREE
   ·rw [if_pos (show y < 1099511627776 from hyf), if_pos hyf]
    cases hh with
    | none => rfl
    | some z =>
     simp only [Option.isSome_some, if_true, Option.getD_some, dnHi]
     by_cases hc : v + y < z
     ·rw [if_pos hc, if_pos hc]
     ·rw [if_neg hc, if_neg hc]
   ·rw [if_neg (show ¬ y < 1099511627776 from hyf), if_neg hyf]
  have j5 : Ev (fun f => r14_Range.j5 f c vs ((c.length : Int) - 1) (vs.length : Int) (lo.getD (-1099511627776)) (hh.getD 1099511627776) lo.isSome hh.isSome (j : Int) (i : Int) v) res := by
   refine Ev.step (fun f => ?_) (j6 _ ih)
   conv => lhs; unfold r14_Range.j5
   rw [b1, b2, if_pos (by omega), if_pos (by omega), if_pos (by omega), if_pos (by omega), wrapOk (v - x) (by omega) (by omega)]
   by_cases hxf : x < FREE
   ·rw [if_pos (show x < 1099511627776 from hxf), if_pos hxf]
    cases lo with
    | none => rfl
    | some z =>
     simp only [Option.isSome_some, if_true, Option.getD_some, upLo]
     by_cases hc : z < v - x
     ·rw [if_pos hc, if_pos hc]
     ·rw [if_neg hc, if_neg hc]
   ·rw [if_neg (show ¬ x < 1099511627776 from hxf), if_neg hxf]
  refine Ev.step (fun f => ?_) j5
  conv => lhs; unfold r14_Range.l3
  rw [if_pos (by omega)]
  by_cases hlt : (j : Int) < (vs.length : Int)
  ·obtain ⟨e1, e2⟩ := hrow.1 hlt
   rw [if_pos hlt, if_pos (by omega), if_pos (by omega), e2]
   rw [← e1]
  ·obtain ⟨e1, e2⟩ := hrow.2 hlt
   rw [if_neg hlt, ← e1, ← e2]
theorem range_f (c : List (List Int)) (vs : List Int) (hl : vs.length ≤ 1000) (hc : c.length ≤ 1000) : Ev (fun k => r14_Range.f k c vs) (rangeS c vs) := by
 have hj : ∀ b k, r14_Range.j0 (k + 1) c vs ((c.length : Int) - 1) b = if b = true then some (0, 0, 1) else r14_Range.l0 k c vs ((c.length : Int) - 1) 0 := fun b k => rfl
 have ew : wrap64 ((c.length : Int) - 1) = (c.length : Int) - 1 := wrapOk _ (by omega) (by omega)
 unfold rangeS
 rw [badTab_any]
 by_cases h1 : c.length < 1
 ·rw [if_pos (by simp [h1])]
  refine Ev.step (f := fun _ => some (0, 0, 1)) (fun k => ?_) (Ev.now _)
  unfold r14_Range.f
  rw [ew, if_pos (show (c.length : Int) - 1 < 0 by omega), hj, if_pos rfl]
 by_cases h11 : 11 < c.length
 ·rw [if_pos (by simp [h11])]
  refine Ev.step (f := fun _ => some (0, 0, 1)) (fun k => ?_) (Ev.now _)
  unfold r14_Range.f
  rw [ew, if_neg (show ¬ (c.length : Int) - 1 < 0 by omega), hj, if_pos (show decide ((c.length : Int) - 1 > 10) = true from decide_eq_true (by omega))]
 have e1 : decide (c.length < 1) = false := decide_eq_false h1
 have e2 : decide (11 < c.length) = false := decide_eq_false h11
 simp only [e1, e2, Bool.false_or]
 refine Ev.step (fun k => ?_) (g_l0 (c := c) (vs := vs) (by omega) (by omega) c.length 0 (by omega) (fun hb => ?_) (fun hb => ?_))
 ·unfold r14_Range.f
  rw [ew, if_neg (show ¬ (c.length : Int) - 1 < 0 by omega), hj, if_neg (show ¬ decide ((c.length : Int) - 1 > 10) = true by rw [decide_eq_true_eq]; omega)]
  rfl
 ·rw [List.drop_zero] at hb
  simp only [hb, Bool.false_or]
  refine g_l2 (c := c) (vs := vs) (by omega) (by omega) hl vs.length 0 (by omega) (fun hw => ?_) (fun hw => ?_)
  ·rw [List.drop_zero] at hw
   simp only [hw]
   rw [if_neg (by simp)]
   by_cases hk : c.length - 1 ≤ vs.length
   ·rw [if_pos hk]
    refine Ev.step (f := fun _ => some (0, 0, 6)) (fun k => ?_) (Ev.now _)
    unfold r14_Range.l2
    rw [if_neg (by omega), if_pos (by omega)]
   ·rw [if_neg hk]
    have := g_l3 (c := c) (vs := vs) (by omega) hb hw (by omega) (vs.length + 1) 0 (by omega)
    refine Ev.step (fun k => ?_) this
    conv => lhs; unfold r14_Range.l2
    rw [if_neg (by omega), if_neg (by omega)]
    rfl
  ·rw [List.drop_zero] at hw
   rw [if_pos hw]
 ·rw [List.drop_zero] at hb
  rw [hb]
  rfl
end Go.Proofs.Ytcnkjcbjlopkmaa.Q
