/- What edges computes, in plain words. -/
import Derived.Test.YtcnkjcbjlopkmaaSpec
import Derived.Test.YtcnkjcbjlopkmaaQ3
namespace Go.Proofs.Ytcnkjcbjlopkmaa.Q
open Go.RowKit Go.Proofs.YtcnkjcbjlopkmaaW.PrintWords Go.Proofs.YtcnkjcbjlopkmaaW.PrintLast Go.Proofs.YtcnkjcbjlopkmaaW.PrintMore
set_option linter.unusedVariables false
set_option linter.unusedSimpArgs false
theorem wrapOk (x : Int) (h1 : -9223372036854775808 ≤ x) (h2 : x ≤ 9223372036854775807) : wrap64 x = x := by rw [← i64_w, IntKind.wrap_i64]; omega
theorem rowOf_mod (n a : Int) (hn : 0 ≤ n) (hn2 : n ≤ 10) (h1 : -1 ≤ a) (h2 : a < n) : Int.tmod (wrap64 (wrap64 (a + n) + 1)) (wrap64 (n + 1)) = rowOf n a := by
 rw [wrapOk (a + n) (by omega) (by omega), wrapOk (a + n + 1) (by omega) (by omega), wrapOk (n + 1) (by omega) (by omega)]
 rw [Int.tmod_eq_emod_of_nonneg (by omega)]
 unfold rowOf
 by_cases h : a < 0
 ·rw [if_pos h]
  have : a = -1 := by omega
  subst this
  rw [show (-1 : Int) + n + 1 = n by omega]
  exact Int.emod_eq_of_lt hn (by omega)
 ·rw [if_neg h, show a + n + 1 = a + (n + 1) by omega, Int.add_emod_right]
  exact Int.emod_eq_of_lt (by omega) (by omega)
theorem set_take {α : Type} (acc : List α) (i : Nat) (v : α) (h : i < acc.length) : (acc.set i v).take (i + 1) = acc.take i ++ [v] := by
 apply List.ext_getElem?
 intro j
 simp only [List.getElem?_take, List.getElem?_set, List.getElem?_append, List.length_take]
 rcases Nat.lt_trichotomy j i with h1 | h1 | h1
 ·rw [if_pos (by omega), if_neg (by omega), if_pos (by omega), if_pos (by omega)]
 ·subst h1
  simp [h, Nat.min_eq_left (Nat.le_of_lt h)]
 ·rw [if_neg (by omega), if_neg (by omega), List.getElem?_eq_none (by simp; omega)]
theorem wrap_nat (i : Nat) (h : i ≤ 1000) : wrap64 ((i : Int) + 1) = ((i + 1 : Nat) : Int) := by rw [wrapOk _ (by omega) (by omega)]; omega
theorem wrap_n0 (n : Int) (h : 0 ≤ n) (h2 : n ≤ 10) : ¬ wrap64 (n + 1) = 0 := by rw [wrapOk _ (by omega) (by omega)]; omega
theorem mn_ge {a b : Int} (h1 : -1 ≤ a) (h2 : -1 ≤ b) : ¬ mn a b < -1 := by unfold mn; split <;> omega
theorem mx_lt {a b n : Int} (h1 : a < n) (h2 : b < n) : ¬ mx a b ≥ n := by unfold mx; split <;> omega
theorem mn_le' (a b : Int) : mn a b ≤ a ∧ mn a b ≤ b ∧ (mn a b = a ∨ mn a b = b) := by unfold mn; split <;> omega
theorem mx_le' (a b : Int) : a ≤ mx a b ∧ b ≤ mx a b ∧ (mx a b = a ∨ mx a b = b) := by unfold mx; split <;> omega
theorem edges_loop (n : Int) (l : List S55) (hn : 0 ≤ n) (hn2 : n ≤ 10) (hl : l.length ≤ 64) : ∀ (d i : Nat) (acc : List S78), i + d = l.length → acc.length = l.length → acc.take i = (l.take i).map (edgeOf n) →
  bounds_edges.l0 (d + 1) n acc l (l.length : Int) (i : Int) = some (if (l.drop i).all (okDiff n) then (l.map (edgeOf n), 0) else ([], 1))
 | 0, i, acc, hi, ha, ht => by
  have e : i = l.length := by omega
  subst e
  unfold bounds_edges.l0
  rw [if_neg (by omega), List.drop_length]
  rw [← ha, List.take_length] at ht
  rw [ha, List.take_length] at ht
  simp [ht]
 | d + 1, i, acc, hi, ha, ht => by
  have hil : i < l.length := by omega
  have ex : rd_T55 l (i : Int) = l[i] := by simp [rd_T55, List.getD_eq_getElem?_getD, hil]
  rw [List.drop_eq_getElem_cons hil]
  unfold bounds_edges.l0
  rw [if_pos (by omega), if_pos (by omega), if_pos (by omega), ex]
  obtain ⟨x, hx⟩ : ∃ x, l[i] = x := ⟨_, rfl⟩
  rw [hx]
  simp only [List.all_cons]
  by_cases hok : okDiff n x = true
  ·have hok' := hok
   simp only [okDiff, decide_eq_true_eq] at hok'
   obtain ⟨h1, h2, h3, h4, h5, h6, h7⟩ := hok'
   rw [if_neg (mn_ge h1 h2), if_neg (mx_lt h3 h4), if_neg h5, if_neg (Int.not_lt.2 h6), if_neg (Int.not_lt.2 h7), if_neg (wrap_n0 n hn hn2), if_pos (show (i : Int) < (acc.length : Int) by rw [ha]; exact Int.ofNat_lt.2 hil)]
   rw [rowOf_mod n x.f0 hn hn2 h1 h3, rowOf_mod n x.f1 hn hn2 h2 h4]
   have ew := wrap_nat i (Nat.le_trans (Nat.le_of_lt hil) (Nat.le_trans hl (by decide)))
   rw [ew, Int.toNat_natCast]
   have eid : i + 1 + d = l.length := by clear hx ex ht; omega
   rw [edges_loop n l hn hn2 hl d (i + 1) _ eid (by rw [List.length_set]; exact ha) ?_]
   simp only [hok, Bool.true_and]
   rw [set_take _ _ _ (by omega), ht, List.take_succ_eq_append_getElem hil, List.map_append, hx]
   rfl
  ·have hok2 : okDiff n x = false := by simpa using hok
   simp only [hok2, Bool.false_and]
   have hok' := hok
   simp only [okDiff, decide_eq_true_eq] at hok'
   have hmn := mn_le' x.f0 x.f1
   have hmx := mx_le' x.f0 x.f1
   split
   ·rfl
   split
   ·rfl
   split
   ·rfl
   split
   ·rfl
   split
   ·rfl
   exact absurd ⟨by omega, by omega, by omega, by omega, by assumption, by omega, by omega⟩ hok'
theorem edges_f (n : Int) (l : List S55) : ∃ k, bounds_edges.f k n l = some (if validS n l = 0 then (l.map (edgeOf n), 0) else ([], validS n l)) := by
 refine ⟨l.length + 2, ?_⟩
 have hj : ∀ b, bounds_edges.j0 (l.length + 2) n l b = if b = true then some ([], 4) else if n < 0 then some ([], 1) else if 0 ≤ (l.length : Int) then (if ((l.length : Int) : Int).toNat ≤ 11728124029610 then bounds_edges.l0 (l.length + 1) n (List.replicate ((l.length : Int) : Int).toNat z78) l (l.length : Int) 0 else none) else none := fun b => rfl
 unfold bounds_edges.f validS
 rw [hj, hj]
 by_cases h1 : n > 10
 ·rw [if_pos h1, if_pos (Or.inl h1)]
  rfl
 rw [if_neg h1]
 by_cases h2 : l.length > 64
 ·have hd : decide ((l.length : Int) > 64) = true := decide_eq_true (by omega)
  rw [if_pos hd, if_pos (Or.inr h2)]
  rfl
 have hd : ¬ decide ((l.length : Int) > 64) = true := by rw [decide_eq_true_eq]; omega
 have hno : ¬ (n > 10 ∨ l.length > 64) := fun hh => Or.elim hh h1 h2
 rw [if_neg hd, if_neg hno]
 by_cases h3 : n < 0
 ·rw [if_pos h3, if_pos h3]
  rfl
 rw [if_neg h3, if_neg h3, if_pos (by omega), Int.toNat_natCast, if_pos (by omega)]
 have := edges_loop n l (by omega) (by omega) (by omega) l.length 0 (List.replicate l.length z78) (by omega) (by simp) (by simp)
 rw [show (0 : Int) = ((0 : Nat) : Int) from rfl, this, List.drop_zero]
 by_cases h4 : l.all (okDiff n) = true
 ·rw [if_pos h4, if_pos h4]
  rfl
 ·rw [if_neg h4, if_neg h4]
  rfl
end Go.Proofs.Ytcnkjcbjlopkmaa.Q
