/- Fill and Holds are the reference's; equal lists and tables. -/
import Derived.Test.YtcnkjcbjlopkmaaRcl
import Derived.Test.YtcnkjcbjlopkmaaRng
import Derived.Test.YtcnkjcbjlopkmaaHol
import Derived.Test.YtcnkjcbjlopkmaaQ11
import Derived.Test.YtcnkjcbjlopkmaaQ16
namespace Go.Proofs.Ytcnkjcbjlopkmaa.Q
open Go.RowKit Go.Proofs.YtcnkjcbjlopkmaaW.PrintWords Go.Proofs.YtcnkjcbjlopkmaaW.PrintLast Go.Proofs.YtcnkjcbjlopkmaaW.PrintMore
set_option linter.unusedVariables false
set_option linter.unusedSimpArgs false
theorem sameInts_loop (l : List Int) (hl : l.length ≤ 1000) : ∀ d i, i + d = l.length → Ev (fun k => r01_SameInts.l0 k l l (i : Int)) true
 | 0, i, hi => by
  refine Ev.step (f := fun _ => some true) (fun k => ?_) (Ev.now _)
  unfold r01_SameInts.l0
  rw [if_neg (by omega)]
 | d + 1, i, hi => by
  refine Ev.step (fun k => ?_) (sameInts_loop l hl d (i + 1) (by omega))
  conv => lhs; unfold r01_SameInts.l0
  rw [if_pos (by omega), if_pos (by omega), if_pos rfl, wrap_nat i (by omega)]
  try rw [if_pos (by omega)]
theorem sameInts_f (l : List Int) (hl : l.length ≤ 1000) : Ev (fun k => r01_SameInts.f k l l) true := by
 refine Ev.congr (fun k => ?_) (sameInts_loop l hl l.length 0 (by omega))
 unfold r01_SameInts.f
 rw [if_pos rfl]
 rfl
theorem keeps_f (d : S54) (vs : List Int) : Ev (fun k => r14_Keeps.f k d.f0 d.f1 d.f2 vs) (!breaks vs (o55 d)) := by
 obtain ⟨a, b, n⟩ := d
 simp only [o55]
 have hj : ∀ (x : Bool) k, r14_Keeps.j0 (k + 1) vs x a b n = if x = true then (some false) else (if a ≥ 0 then (if 0 ≤ a then (if a < (vs.length : Int) then (if b ≥ 0 then (if 0 ≤ b then (if b < (vs.length : Int) then (some (decide ((rd vs a) ≤ (wrap64 ((rd vs b) + n))))) else (none)) else (none)) else (some (decide ((rd vs a) ≤ (wrap64 (0 + n)))))) else (none)) else (none)) else (if b ≥ 0 then (if 0 ≤ b then (if b < (vs.length : Int) then (some (decide (0 ≤ (wrap64 ((rd vs b) + n))))) else (none)) else (none)) else (some (decide (0 ≤ (wrap64 (0 + n))))))) := fun x k => rfl
 refine Ev.step (f := fun _ => some (!breaks vs ⟨a, b, n⟩)) (fun k => ?_) (Ev.now _)
 unfold r14_Keeps.f breaks
 simp only
 by_cases h1 : a < -1
 ·rw [if_pos h1, hj, if_pos rfl]; simp [h1]
 rw [if_neg h1]
 by_cases h2 : a ≥ (vs.length : Int)
 ·rw [if_pos h2, hj, if_pos rfl]; simp [h1, h2]
 rw [if_neg h2]
 by_cases h3 : b < -1
 ·rw [if_pos h3, hj, if_pos rfl]; simp [h3]
 rw [if_neg h3]
 by_cases h4 : b ≥ (vs.length : Int)
 ·rw [decide_eq_true h4, hj, if_pos rfl]; simp [h4]
 rw [decide_eq_false h4, hj, if_neg (by simp)]
 have e1 : decide (a < -1) = false := decide_eq_false h1
 have e2 : decide ((vs.length : Int) ≤ a) = false := decide_eq_false h2
 have e3 : decide (b < -1) = false := decide_eq_false h3
 have e4 : decide ((vs.length : Int) ≤ b) = false := decide_eq_false h4
 rw [e1, e2, e3]
 try rw [e4]
 simp only [Bool.false_or]
 unfold gotV
 have key : ∀ x y : Int, some (decide (x ≤ y)) = some (!decide (x > y)) := fun x y => by
  congr 1
  by_cases h : x ≤ y
  ·simp [h]
  ·have h2 : y < x := by omega
   simp [h, h2]
 by_cases ha : a ≥ 0
 ·rw [if_pos ha, if_pos ha, if_pos (by omega), if_neg (show ¬ a < 0 by omega)]
  by_cases hb : b ≥ 0
  ·rw [if_pos hb, if_pos hb, if_pos (by omega), if_neg (show ¬ b < 0 by omega)]
   exact key _ _
  ·rw [if_neg hb, if_pos (show b < 0 by omega)]
   exact key _ _
 ·rw [if_neg ha, if_pos (show a < 0 by omega)]
  by_cases hb : b ≥ 0
  ·rw [if_pos hb, if_pos hb, if_pos (by omega), if_neg (show ¬ b < 0 by omega)]
   exact key _ _
  ·rw [if_neg hb, if_pos (show b < 0 by omega)]
   exact key _ _
theorem holds_loop (l : List S54) (hl : l.length ≤ 500) (vs : List Int) : ∀ d i, i + d = l.length → Ev (fun k => r14_Holds.l0 k l vs (i : Int)) (firstBad vs ((l.drop i).map o55) i)
 | 0, i, hi => by
  rw [show i = l.length by omega, List.drop_length]
  refine Ev.step (f := fun _ => some (-1)) (fun k => ?_) (Ev.now _)
  unfold r14_Holds.l0
  rw [if_neg (by omega)]
 | d + 1, i, hi => by
  have hlt : i < l.length := by omega
  rw [List.drop_eq_getElem_cons hlt, List.map_cons]
  unfold firstBad
  have hk := keeps_f l[i] vs
  have hb : Ev (fun k => (r14_Keeps.f k l[i].f0 l[i].f1 l[i].f2 vs).bind fun t => if t = true then r14_Holds.l0 k l vs ((i + 1 : Nat) : Int) else some (i : Int)) (if breaks vs (o55 l[i]) = true then (i : Int) else firstBad vs ((l.drop (i + 1)).map o55) (i + 1)) := by
   refine Ev.bind (f := fun k (t : Bool) => if t = true then r14_Holds.l0 k l vs ((i + 1 : Nat) : Int) else some (i : Int)) hk ?_
   cases hbr : breaks vs (o55 l[i]) with
   | true => simpa using Ev.now (i : Int)
   | false => simpa using holds_loop l hl vs d (i + 1) (by omega)
  refine Ev.step (fun k => ?_) hb
  conv => lhs; unfold r14_Holds.l0
  rw [rd54 hlt, if_pos (by omega), if_pos (by omega), wrap_nat i (by omega)]
theorem holds_f (l : List S54) (hl : l.length ≤ 500) (vs : List Int) : Ev (fun k => r14_Holds.f k l vs) (firstBad vs (l.map o55) 0) := holds_loop l hl vs l.length 0 (by omega)
theorem rangeS_ok {c : List (List Int)} {vs : List Int} {lo hi : Int} (h : rangeS c vs = (lo, hi, 0)) : lo ≤ hi ∧ -2199023255552 ≤ lo ∧ hi ≤ 2199023255552 := by
 unfold rangeS at h
 split at h
 ·injection h with _ h; injection h with _ h; cases h
 ·rename_i hb
  rw [badTab_any] at hb
  simp only [Bool.or_eq_true, not_or, Bool.not_eq_true, decide_eq_false_iff_not] at hb
  obtain ⟨⟨⟨h1, h2⟩, h3⟩, h4⟩ := hb
  split at h
  ·injection h with _ h; injection h with _ h; cases h
  ·rename_i hk
   simp only at h
   split at h
   ·injection h with _ h; injection h with _ h; cases h
   ·rename_i hlt
    injection h with e1 h
    injection h with e2 _
    have hbd := loOf_bd h3 h4 (n := c.length - 1) (k := vs.length) (by omega) (by omega) (vs.length + 1) (by omega)
    have hF : FREE = 1099511627776 := rfl
    rw [e1, e2] at hlt
    refine ⟨by omega, ?_, ?_⟩
    ·rw [← e1]
     cases hl : loOf c vs (c.length - 1) vs.length (vs.length + 1) with
     | none => simp only [Option.getD_none]; omega
     | some y => simp only [Option.getD_some]; exact (hbd.1 y hl).1
    ·rw [← e2]
     cases hl : hiOf c vs (c.length - 1) vs.length (vs.length + 1) with
     | none => simp only [Option.getD_none]; omega
     | some y => simp only [Option.getD_some]; exact (hbd.2 y hl).2
def takeV (lo hi pick : Int) : Int := wrap64 (lo + (Int.tmod (wrap64 (pick + (wrap64 ((wrap64 (hi - lo)) + 1)))) (wrap64 ((wrap64 (hi - lo)) + 1))))
def pickV (picks : List Int) (k : Nat) (m : Int) : Int := if (k : Int) < (picks.length : Int) then Int.tmod (rd picks (k : Int)) m else (0 : Int) % m
def fillS (picks : List Int) (c : List (List Int)) : Nat → Nat → List Int → List Int × Int
 | 0, _, out => (out, 0)
 | d + 1, k, out =>
  let r := rangeS c out
  if r.2.2 ≠ 0 ∨ r.1 = -1099511627776 ∨ r.2.1 = 1099511627776 then ([], 5)
  else fillS picks c d (k + 1) (out ++ [takeV r.1 r.2.1 (pickV picks k (wrap64 ((wrap64 (r.2.1 - r.1)) + 1)))])
theorem fill_loop (n : Nat) (hn : n ≤ 10) (picks : List Int) (c : List (List Int)) (hc : c.length ≤ 1000) : ∀ d k out, k + d = n → out.length = k →
  Ev (fun f => bounds_Fill.l0 f picks c out (n : Int) (k : Int)) (fillS picks c d k out) ∧ Ev (fun f => r14_Fill.l0 f (n : Int) picks c out (k : Int)) (fillS picks c d k out)
 | 0, k, out, hk, ho => by
  unfold fillS
  refine ⟨?_, ?_⟩
  ·refine Ev.step (f := fun _ => some (out, 0)) (fun f => ?_) (Ev.now _)
   unfold bounds_Fill.l0
   rw [if_neg (by omega)]
  ·refine Ev.step (f := fun _ => some (out, 0)) (fun f => ?_) (Ev.now _)
   unfold r14_Fill.l0
   rw [if_neg (by omega)]
 | d + 1, k, out, hk, ho => by
  obtain ⟨lo, hi, e, hR⟩ : ∃ lo hi e, rangeS c out = (lo, hi, e) := ⟨_, _, _, rfl⟩
  have hrf : bounds_Range.f c out = some (lo, hi, e) := by unfold bounds_Range.f; rw [hR]
  have hrr := range_f c out (by omega) hc
  rw [hR] at hrr
  unfold fillS
  rw [hR]
  simp only
  have j1 : ∀ x, (x = true → Ev (fun f => bounds_Fill.j1 f picks c out (k : Int) lo hi (n : Int) (k : Int) x) ([], 5) ∧ Ev (fun f => r14_Fill.j1 f (n : Int) picks c out (k : Int) lo hi x) ([], 5)) := by
   intro x hx
   subst hx
   exact ⟨Ev.step (f := fun _ => some ([], 5)) (fun f => rfl) (Ev.now _), Ev.step (f := fun _ => some ([], 5)) (fun f => rfl) (Ev.now _)⟩
  have step1 : ∀ (x : Bool) (q : List Int × Int), (if e = 0 then (if lo = -1099511627776 then true else (hi == 1099511627776)) else true) = x →
    (Ev (fun f => bounds_Fill.j1 f picks c out (k : Int) lo hi (n : Int) (k : Int) x) q ∧ Ev (fun f => r14_Fill.j1 f (n : Int) picks c out (k : Int) lo hi x) q) →
    (Ev (fun f => bounds_Fill.l0 f picks c out (n : Int) (k : Int)) q ∧ Ev (fun f => r14_Fill.l0 f (n : Int) picks c out (k : Int)) q) := by
   intro x q hx hq
   refine ⟨Ev.step (fun f => ?_) hq.1, ?_⟩
   ·conv => lhs; unfold bounds_Fill.l0
    rw [if_pos (by omega), hrf, Option.bind_some, ← hx]
    simp only
    by_cases h1 : e = 0
    ·rw [if_pos h1, if_pos h1]
     by_cases h2 : lo = -1099511627776
     ·rw [if_pos h2, if_pos h2]
     ·rw [if_neg h2, if_neg h2]
    ·rw [if_neg h1, if_neg h1]
   ·have hb := Ev.bind (f := fun f (bt : Int × Int × Int) => (if bt.2.2 = 0 then (if bt.1 = (-1099511627776) then (r14_Fill.j1 f (n : Int) picks c out (k : Int) bt.1 bt.2.1 true) else (r14_Fill.j1 f (n : Int) picks c out (k : Int) bt.1 bt.2.1 (bt.2.1 == 1099511627776))) else (r14_Fill.j1 f (n : Int) picks c out (k : Int) bt.1 bt.2.1 true))) (r := q) hrr (by
     refine Ev.congr (fun f => ?_) hq.2
     simp only
     rw [← hx]
     by_cases h1 : e = 0
     ·rw [if_pos h1, if_pos h1]
      by_cases h2 : lo = -1099511627776
      ·rw [if_pos h2, if_pos h2]
      ·rw [if_neg h2, if_neg h2]
     ·rw [if_neg h1, if_neg h1])
    refine Ev.step (fun f => ?_) hb
    conv => lhs; unfold r14_Fill.l0
    rw [if_pos (by omega)]
  by_cases hbad : e ≠ 0 ∨ lo = -1099511627776 ∨ hi = 1099511627776
  ·rw [if_pos hbad]
   have hx : (if e = 0 then (if lo = -1099511627776 then true else (hi == 1099511627776)) else true) = true := by
    by_cases h1 : e = 0
    ·rw [if_pos h1]
     by_cases h2 : lo = -1099511627776
     ·rw [if_pos h2]
     ·rw [if_neg h2]
      rcases hbad with h | h | h
      ·exact absurd h1 h
      ·exact absurd h h2
      ·simp [h]
    ·rw [if_neg h1]
   exact step1 true _ hx (j1 true rfl)
  ·rw [if_neg hbad]
   have h1 : e = 0 := Decidable.byContradiction fun h => hbad (.inl h)
   have h2 : ¬ lo = -1099511627776 := fun h => hbad (.inr (.inl h))
   have h3 : ¬ hi = 1099511627776 := fun h => hbad (.inr (.inr h))
   subst h1
   obtain ⟨r1, r2, r3⟩ := rangeS_ok hR
   have hx : (if (0 : Int) = 0 then (if lo = -1099511627776 then true else (hi == 1099511627776)) else true) = false := by
    rw [if_pos rfl, if_neg h2]
    simp [h3]
   have hm : ¬ wrap64 (wrap64 (hi - lo) + 1) = 0 := by
    rw [wrapOk (hi - lo) (by omega) (by omega), wrapOk (hi - lo + 1) (by omega) (by omega)]
    omega
   refine step1 false _ hx ?_
   have ih := fill_loop n hn picks c hc d (k + 1) (out ++ [takeV lo hi (pickV picks k (wrap64 ((wrap64 (hi - lo)) + 1)))]) (by omega) (by simp [ho])
   refine ⟨Ev.step (fun f => ?_) ih.1, Ev.step (fun f => ?_) ih.2⟩
   ·conv => lhs; unfold bounds_Fill.j1
    unfold takeV pickV
    rw [if_neg (by simp), wrap_nat k (by omega)]
    by_cases hp : (k : Int) < (picks.length : Int)
    ·rw [if_pos hp, if_pos hp, if_pos (by omega), if_neg hm, if_pos (by omega)]
    ·rw [if_neg hp, if_neg hp, if_neg hm, if_pos (by omega)]
   ·conv => lhs; unfold r14_Fill.j1
    unfold takeV pickV
    rw [if_neg (by simp), wrap_nat k (by omega)]
    by_cases hp : (k : Int) < (picks.length : Int)
    ·rw [if_pos hp, if_pos hp, if_pos (by omega), if_neg hm, if_pos (by omega)]
    ·rw [if_neg hp, if_neg hp, if_neg hm, if_pos (by omega)]
def fillF (n : Int) (l : List S55) (picks : List Int) : List Int × Int := if (closeS n l).2 = 0 then fillS picks (closeS n l).1 n.toNat 0 [] else ([], (closeS n l).2)
theorem fillS_len (picks : List Int) (c : List (List Int)) : ∀ d k out, (fillS picks c d k out).1.length ≤ out.length + d
 | 0, k, out => by simp [fillS]
 | d + 1, k, out => by
  unfold fillS
  simp only
  split
  ·simp
  ·have := fillS_len picks c d (k + 1) (out ++ [takeV (rangeS c out).1 (rangeS c out).2.1 (pickV picks k (wrap64 ((wrap64 ((rangeS c out).2.1 - (rangeS c out).1)) + 1)))])
   rw [List.length_append, List.length_singleton] at this
   omega
theorem closeS_valid {n : Int} {l : List S55} (h : (closeS n l).2 = 0) : validS n l = 0 := by
 unfold closeS at h
 split at h
 ·assumption
 ·exact h
theorem closeS_len {n : Int} {l : List S55} (h : (closeS n l).2 = 0) : (closeS n l).1.length = n.toNat + 1 := by
 have hv := closeS_valid h
 unfold closeS at h ⊢
 rw [if_pos hv] at h ⊢
 split at h
 ·cases h
 ·rename_i hn
  rw [if_neg hn, tabOf_len]
theorem fill_f (n : Int) (l : List S54) (picks : List Int) : Ev (fun k => bounds_Fill.f k n (l.map o55) picks) (fillF n (l.map o55) picks) ∧ Ev (fun k => r14_Fill.f k n l picks) (fillF n (l.map o55) picks) := by
 unfold fillF
 by_cases h : (closeS n (l.map o55)).2 = 0
 ·have hv := closeS_valid h
  have hlen := closeS_len h
  obtain ⟨n0, n1, -, -⟩ := validS_ok hv
  obtain ⟨m, rfl⟩ := Int.eq_ofNat_of_zero_le n0
  rw [Int.toNat_natCast] at hlen ⊢
  have hf := fill_loop m (by omega) picks (closeS (m : Int) (l.map o55)).1 (by omega) m 0 [] (by omega) rfl
  rw [if_pos h]
  refine ⟨?_, ?_⟩
  ·unfold bounds_Fill.f
   refine Ev.bind (close_f _ _) ?_
   simp only [if_pos h]
   exact hf.1
  ·unfold r14_Fill.f
   refine Ev.bind (refClose_f _ _) ?_
   simp only [if_pos h]
   exact hf.2
 ·rw [if_neg h]
  refine ⟨?_, ?_⟩
  ·unfold bounds_Fill.f
   refine Ev.bind (close_f _ _) ?_
   simp only [if_neg h]
   exact Ev.now _
  ·unfold r14_Fill.f
   refine Ev.bind (refClose_f _ _) ?_
   simp only [if_neg h]
   exact Ev.now _
theorem fillF_len (n : Int) (l : List S55) (picks : List Int) : (fillF n l picks).1.length ≤ 1000 := by
 unfold fillF
 split
 ·rename_i h
  obtain ⟨n0, n1, -, -⟩ := validS_ok (closeS_valid h)
  have := fillS_len picks (closeS n l).1 n.toNat 0 []
  simp only [List.length_nil] at this
  omega
 ·simp
end Go.Proofs.Ytcnkjcbjlopkmaa.Q
