/- Made, Bent and Take always answer; the examples hold. -/
import Derived.Test.YtcnkjcbjlopkmaaFw
import Derived.Test.YtcnkjcbjlopkmaaHid
import Derived.Test.YtcnkjcbjlopkmaaQ1
import Derived.Test.YtcnkjcbjlopkmaaQ2
import Derived.Test.YtcnkjcbjlopkmaaQ12
namespace Go.Proofs.Ytcnkjcbjlopkmaa.Q
open Go.RowKit Go.Proofs.YtcnkjcbjlopkmaaW.PrintWords Go.Proofs.YtcnkjcbjlopkmaaW.PrintLast Go.Proofs.YtcnkjcbjlopkmaaW.PrintMore
set_option linter.unusedVariables false
set_option linter.unusedSimpArgs false
set_option maxRecDepth 100000 in
theorem lives_200 : l14_lives.f 200 = some true := by decide +kernel
theorem lives_f : Ev (fun k => l14_lives.f k) true := Ev.of (fun k => l14_lives.mono k) lives_200
def I64 (x : Int) : Prop := -9223372036854775808 ≤ x ∧ x ≤ 9223372036854775807
theorem wrap64_I (x : Int) : I64 (wrap64 x) := by
 unfold I64
 rw [← i64_w, IntKind.wrap_i64]
 omega
theorem around_f {a m : Int} (h : I64 a) : r01_Around.f a m = some (ar a m) := by
 unfold r01_Around.f
 rw [if_pos (show -9223372036854775808 ≤ a ∧ a ≤ 9223372036854775807 from h)]
theorem rd_I {l : List Int} (hl : ∀ x ∈ l, I64 x) (i : Int) : I64 (rd l i) := by
 unfold rd
 rw [List.getD_eq_getElem?_getD]
 cases h : l[i.toNat]? with
 | none => simp [I64]
 | some x => exact hl x (List.mem_of_getElem? h)
theorem at_f {l : List Int} (hl : ∀ x ∈ l, I64 x) (i m : Int) (hm : 1 ≤ m) : ∃ v, r01_At.f l i m = some v ∧ 0 ≤ v ∧ v < m := by
 unfold r01_At.f
 by_cases h1 : i < 0
 ·rw [if_pos h1]; exact ⟨0, rfl, by omega, by omega⟩
 rw [if_neg h1]
 by_cases h2 : i ≥ (l.length : Int)
 ·rw [if_pos h2]; exact ⟨0, rfl, by omega, by omega⟩
 rw [if_neg h2, if_pos (by omega), if_pos (by omega), around_f (rd_I hl i)]
 exact ⟨_, rfl, ar_nonneg _ _, ar_lt _ _ hm⟩
def Tot {α : Type} (g : Nat → Option α) (P : α → Prop) : Prop := ∃ r, Ev g r ∧ P r
theorem Tot.step {α : Type} {g f : Nat → Option α} {P : α → Prop} (h : ∀ k, g (k + 1) = f k) (k : Tot f P) : Tot g P := by
 obtain ⟨r, h1, h2⟩ := k
 exact ⟨r, Ev.step h h1, h2⟩
theorem Tot.now {α : Type} {P : α → Prop} (r : α) (h : P r) : Tot (fun _ => some r) P := ⟨r, Ev.now r, h⟩
section
variable {l : List Int}
/-- A difference that Made makes. -/
def GoodD (n : Int) (x : S54) : Prop := -1 ≤ x.f0 ∧ x.f0 < n ∧ -1 ≤ x.f1 ∧ x.f1 < n ∧ x.f0 ≠ x.f1 ∧ -100 ≤ x.f2 ∧ x.f2 ≤ 100
def MadeP (n : Int) (lim : Nat) (r : Int × List S54) : Prop := r.1 = n ∧ r.2.length ≤ lim ∧ ∀ x ∈ r.2, GoodD n x
theorem good_snoc {n : Int} {t : List S54} {y : S54} (h : ∀ x ∈ t, GoodD n x) (hy : GoodD n y) : ∀ x ∈ t ++ [y], GoodD n x := by
 intro x hx
 rcases List.mem_append.1 hx with hx | hx
 · exact h x hx
 · rw [List.mem_singleton] at hx
   rw [hx]; exact hy
theorem tmod_in {v m : Int} (hv : 0 ≤ v) (hm : 1 ≤ m) : 0 ≤ Int.tmod v m ∧ Int.tmod v m < m := by
 rw [Int.tmod_eq_emod_of_nonneg hv]
 exact ⟨Int.emod_nonneg _ (by omega), Int.emod_lt_of_pos _ (by omega)⟩
theorem tdiv_in {v m : Int} (hv : 0 ≤ v) (hm : 1 ≤ m) : 0 ≤ Int.tdiv v m ∧ Int.tdiv v m ≤ v := by
 rw [Int.tdiv_eq_ediv_of_nonneg hv]
 refine ⟨Int.ediv_nonneg hv (by omega), Int.ediv_le_self _ hv⟩
theorem made_l1 (hl : ∀ x ∈ l, I64 x) (n : Nat) (hn : 1 ≤ n) (hn5 : n ≤ 5) : ∀ d (i : Nat) (t : List S54), i + d = 32 → t.length ≤ i → (∀ x ∈ t, GoodD n x) →
  Tot (fun k => r14_Made.l1 k l (n : Int) t (i : Int)) (MadeP n 40)
 | 0, i, t, hi, ht, hg => by
  have e : i = 32 := by omega
  have h3 : Tot (fun k => r14_Made.j3 k l (n : Int) t (i : Int) false) (MadeP n 40) := Tot.step (f := fun _ => some ((n : Int), t)) (fun k => by unfold r14_Made.j3; rw [if_neg (by simp)]) (Tot.now _ ⟨rfl, by show t.length ≤ 40; omega, hg⟩)
  refine Tot.step (fun k => ?_) h3
  conv => lhs; unfold r14_Made.l1
  have hd : decide ((i : Int) < 32) = false := decide_eq_false (by omega)
  rw [hd]
  split <;> rfl
 | d + 1, i, t, hi, ht, hg => by
  obtain ⟨v, hv, v0, v1⟩ := at_f hl (i : Int) 1048576 (by omega)
  by_cases hlt : (i : Int) < (l.length : Int)
  ·have hG : ¬ wrap64 ((Int.tmod v (wrap64 ((n : Int) + 1))) - 1) = wrap64 ((Int.tmod (wrap64 (Int.tdiv v 8)) (wrap64 ((n : Int) + 1))) - 1) → GoodD n (⟨wrap64 ((Int.tmod v (wrap64 ((n : Int) + 1))) - 1), wrap64 ((Int.tmod (wrap64 (Int.tdiv v 8)) (wrap64 ((n : Int) + 1))) - 1), wrap64 ((Int.tmod (wrap64 (Int.tdiv v 64)) 11) - 3)⟩ : S54) := by
    intro hne
    have d8 := tdiv_in v0 (show (1 : Int) ≤ 8 by omega)
    have d64 := tdiv_in v0 (show (1 : Int) ≤ 64 by omega)
    rw [wrapOk ((n : Int) + 1) (by omega) (by omega), wrapOk (Int.tdiv v 8) (by omega) (by omega), wrapOk (Int.tdiv v 64) (by omega) (by omega)] at *
    have m1 := tmod_in v0 (show (1 : Int) ≤ (n : Int) + 1 by omega)
    have m2 := tmod_in d8.1 (show (1 : Int) ≤ (n : Int) + 1 by omega)
    have m3 := tmod_in d64.1 (show (1 : Int) ≤ 11 by omega)
    generalize Int.tmod v ((n : Int) + 1) = e1 at *
    generalize Int.tmod (Int.tdiv v 8) ((n : Int) + 1) = e2 at *
    generalize Int.tmod (Int.tdiv v 64) 11 = e3 at *
    rw [wrapOk (e1 - 1) (by omega) (by omega), wrapOk (e2 - 1) (by omega) (by omega), wrapOk (e3 - 3) (by omega) (by omega)] at *
    exact ⟨by show -1 ≤ e1 - 1; omega, by show e1 - 1 < _; omega, by show -1 ≤ e2 - 1; omega, by show e2 - 1 < _; omega, by show ¬ e1 - 1 = e2 - 1; exact hne, by show -100 ≤ e3 - 3; omega, by show e3 - 3 ≤ 100; omega⟩
   have h3 : Tot (fun k => r14_Made.j3 k l (n : Int) t (i : Int) true) (MadeP n 40) := by
    by_cases heq : wrap64 ((Int.tmod v (wrap64 ((n : Int) + 1))) - 1) = wrap64 ((Int.tmod (wrap64 (Int.tdiv v 8)) (wrap64 ((n : Int) + 1))) - 1)
    ·refine Tot.step (fun k => ?_) (made_l1 hl n hn hn5 d (i + 1) t (by omega) (by omega) hg)
     conv => lhs; unfold r14_Made.j3
     rw [if_pos rfl, hv, Option.bind_some, if_neg (by rw [wrapOk _ (by omega) (by omega)]; omega), if_pos heq, wrap_nat i (by omega)]
    ·refine Tot.step (fun k => ?_) (made_l1 hl n hn hn5 d (i + 1) (t ++ [(⟨wrap64 ((Int.tmod v (wrap64 ((n : Int) + 1))) - 1), wrap64 ((Int.tmod (wrap64 (Int.tdiv v 8)) (wrap64 ((n : Int) + 1))) - 1), wrap64 ((Int.tmod (wrap64 (Int.tdiv v 64)) 11) - 3)⟩ : S54)]) (by omega) (by simp; omega) (good_snoc hg (hG heq)))
     conv => lhs; unfold r14_Made.j3
     rw [if_pos rfl, hv, Option.bind_some, if_neg (by rw [wrapOk _ (by omega) (by omega)]; omega), if_neg heq, if_pos (by omega), wrap_nat i (by omega)]
   refine Tot.step (fun k => ?_) h3
   conv => lhs; unfold r14_Made.l1
   rw [if_pos hlt, decide_eq_true (show (i : Int) < 32 by omega)]
  ·have h3 : Tot (fun k => r14_Made.j3 k l (n : Int) t (i : Int) false) (MadeP n 40) := Tot.step (f := fun _ => some ((n : Int), t)) (fun k => by unfold r14_Made.j3; rw [if_neg (by simp)]) (Tot.now _ ⟨rfl, by show t.length ≤ 40; omega, hg⟩)
   refine Tot.step (fun k => ?_) h3
   conv => lhs; unfold r14_Made.l1
   rw [if_neg hlt]
theorem made_l0 (hl : ∀ x ∈ l, I64 x) (n : Nat) (hn : 1 ≤ n) (hn5 : n ≤ 5) : ∀ d (i : Nat) (t : List S54), i + d = n → t.length ≤ 2 * i → (∀ x ∈ t, GoodD n x) →
  Tot (fun k => r14_Made.l0 k l (n : Int) t (i : Int)) (MadeP n 40)
 | 0, i, t, hi, ht, hg => by
  refine Tot.step (fun k => ?_) (made_l1 hl n hn hn5 7 25 t (by omega) (by omega) hg)
  conv => lhs; unfold r14_Made.l0
  rw [if_neg (by omega)]
  rfl
 | d + 1, i, t, hi, ht, hg => by
  obtain ⟨v, hv, v0, v1⟩ := at_f hl (wrap64 (1 + (i : Int))) 12 (by omega)
  obtain ⟨q, hq, q0, q1⟩ := at_f hl (wrap64 (7 + (i : Int))) 9 (by omega)
  obtain ⟨u, hu, u0, u1⟩ := at_f hl (wrap64 (13 + (i : Int))) 9 (by omega)
  obtain ⟨s, hs, s0, s1⟩ := at_f hl (wrap64 (19 + (i : Int))) 9 (by omega)
  have j1 : ∀ (t' : List S54) (x : Int), t'.length ≤ 2 * i + 1 → (∀ x ∈ t', GoodD n x) → -4 ≤ x → x ≤ 7 → Tot (fun k => r14_Made.j1 k l (n : Int) t' (i : Int) x) (MadeP n 40) := by
   intro t' x ht' hg' hx0 hx1
   by_cases hu0 : u > 0
   ·refine Tot.step (fun k => ?_) (made_l0 hl n hn hn5 d (i + 1) (t' ++ [(⟨(i : Int), -1, wrap64 (x + s)⟩ : S54)]) (by omega) (by simp; omega) (good_snoc hg' (by
     rw [wrapOk _ (by omega) (by omega)]
     exact ⟨by show -1 ≤ (i : Int); omega, by show (i : Int) < _; omega, by show (-1 : Int) ≤ -1; omega, by show (-1 : Int) < _; omega, by show ¬ (i : Int) = -1; omega, by show -100 ≤ x + s; omega, by show x + s ≤ 100; omega⟩)))
    conv => lhs; unfold r14_Made.j1
    rw [hu, Option.bind_some, if_pos hu0, hs, Option.bind_some, if_pos (by omega), wrap_nat i (by omega)]
   ·refine Tot.step (fun k => ?_) (made_l0 hl n hn hn5 d (i + 1) t' (by omega) (by omega) hg')
    conv => lhs; unfold r14_Made.j1
    rw [hu, Option.bind_some, if_neg hu0, wrap_nat i (by omega)]
  have hw4 : wrap64 (v - 4) = v - 4 := wrapOk _ (by omega) (by omega)
  by_cases hq0 : q > 0
  ·refine Tot.step (fun k => ?_) (j1 (t ++ [(⟨-1, (i : Int), wrap64 (-(wrap64 (v - 4)))⟩ : S54)]) (wrap64 (v - 4)) (by simp; omega) (good_snoc hg (by
    rw [hw4, wrapOk _ (by omega) (by omega)]
    exact ⟨by show (-1 : Int) ≤ -1; omega, by show (-1 : Int) < _; omega, by show -1 ≤ (i : Int); omega, by show (i : Int) < _; omega, by show ¬ (-1 : Int) = (i : Int); omega, by show -100 ≤ -(v - 4); omega, by show -(v - 4) ≤ 100; omega⟩)) (by rw [hw4]; omega) (by rw [hw4]; omega))
   conv => lhs; unfold r14_Made.l0
   rw [if_pos (by omega), hv, Option.bind_some, hq, Option.bind_some, if_pos hq0, if_pos (by omega)]
  ·refine Tot.step (fun k => ?_) (j1 t (wrap64 (v - 4)) (by omega) hg (by rw [hw4]; omega) (by rw [hw4]; omega))
   conv => lhs; unfold r14_Made.l0
   rw [if_pos (by omega), hv, Option.bind_some, hq, Option.bind_some, if_neg hq0]
theorem made_g (hl : ∀ x ∈ l, I64 x) : ∃ (n : Nat) (d : List S54), Ev (fun k => r14_Made.f k l) ((n : Int), d) ∧ 1 ≤ n ∧ n ≤ 5 ∧ d.length ≤ 40 ∧ ∀ x ∈ d, GoodD n x := by
 obtain ⟨v, hv, v0, v1⟩ := at_f hl 0 5 (by omega)
 obtain ⟨m, rfl⟩ := Int.eq_ofNat_of_zero_le v0
 obtain ⟨⟨a, d⟩, h1, h2, h3, h4⟩ := made_l0 hl (m + 1) (by omega) (by omega) (m + 1) 0 [] (by omega) (by simp) (by simp)
 simp only at h2 h3 h4
 subst h2
 refine ⟨m + 1, d, Ev.congr (fun k => ?_) h1, by omega, by omega, h3, h4⟩
 unfold r14_Made.f
 rw [hv, Option.bind_some, wrapOk _ (by omega) (by omega)]
 congr 1
 omega
theorem made_f (hl : ∀ x ∈ l, I64 x) : ∃ (n : Nat) (d : List S54), Ev (fun k => r14_Made.f k l) ((n : Int), d) ∧ 1 ≤ n ∧ n ≤ 5 ∧ d.length ≤ 40 := by
 obtain ⟨n, d, h1, h2, h3, h4, -⟩ := made_g hl
 exact ⟨n, d, h1, h2, h3, h4⟩
end
end Go.Proofs.Ytcnkjcbjlopkmaa.Q
