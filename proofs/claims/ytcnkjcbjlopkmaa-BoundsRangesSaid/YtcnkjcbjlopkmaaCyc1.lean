/- Plain facts of the ways that Cycle's table holds. -/
import Derived.Test.YtcnkjcbjlopkmaaSpec
namespace Go.Proofs.Ytcnkjcbjlopkmaa.Q
open Go.RowKit Go.Proofs.YtcnkjcbjlopkmaaW.PrintWords Go.Proofs.YtcnkjcbjlopkmaaW.PrintLast Go.Proofs.YtcnkjcbjlopkmaaW.PrintMore
set_option linter.unusedVariables false
set_option linter.unusedSimpArgs false

/-- The edges lie in the table and weigh little. -/
def OkE (n : Nat) (es : List S78) : Prop := ∀ x ∈ es, 0 ≤ x.f0 ∧ x.f0 ≤ (n : Int) ∧ 0 ≤ x.f1 ∧ x.f1 ≤ (n : Int) ∧ -2097152 ≤ x.f2 ∧ x.f2 ≤ 2097152
theorem OkE.drop {n : Nat} {es : List S78} (h : OkE n es) (k : Nat) : OkE n (es.drop k) := fun x hx => h x (List.mem_of_mem_drop hx)
def step1 (prev row : List Int) (x : S78) : List Int := if rd prev x.f1 < FREE then row.set x.f0.toNat (mn (rd row x.f0) (rd prev x.f1 + x.f2)) else row
theorem stepRow_take (prev : List Int) (es : List S78) (row : List Int) (j : Nat) (h : j < es.length) : stepRow prev (es.take (j + 1)) row = step1 prev (stepRow prev (es.take j) row) (rd_T78 es j) := by
 rw [List.take_succ_eq_append_getElem h]
 unfold stepRow
 rw [List.foldl_append]
 have e : rd_T78 es j = es[j] := by simp [rd_T78, List.getD_eq_getElem?_getD, h]
 rw [e]
 rfl
theorem step1_len (prev row : List Int) (x : S78) : (step1 prev row x).length = row.length := by
 unfold step1
 split
 ·rw [List.length_set]
 ·rfl
theorem stepRow_len (prev : List Int) : ∀ (es : List S78) (row : List Int), (stepRow prev es row).length = row.length
 | [], row => rfl
 | x :: r, row => by
  have := stepRow_len prev r (step1 prev row x)
  rw [step1_len] at this
  exact this
theorem ways_len (n : Nat) (es : List S78) (t : Int) : ∀ s, (ways n es t s).length = n + 1
 | 0 => by simp [ways]
 | s + 1 => by rw [ways, stepRow_len, List.length_replicate]
/-- A row's numbers are from -b to FREE. -/
def Bd (b : Int) (row : List Int) : Prop := ∀ i : Int, -b ≤ rd row i ∧ rd row i ≤ FREE
theorem rd_set (row : List Int) (k : Nat) (v i : Int) : rd (row.set k v) i = if i.toNat = k ∧ k < row.length then v else rd row i := by
 simp only [rd, List.getD_eq_getElem?_getD, List.getElem?_set]
 by_cases h : k = i.toNat
 ·subst h
  by_cases h2 : i.toNat < row.length
  ·simp [h2]
  ·simp [h2, List.getElem?_eq_none (by omega : row.length ≤ i.toNat)]
 ·simp [h, show ¬ i.toNat = k from fun e => h e.symm]
theorem Bd.mono {b c : Int} {row : List Int} (h : Bd b row) (hbc : b ≤ c) : Bd c row := fun i => ⟨by have := (h i).1; omega, (h i).2⟩
theorem mn_le (a b : Int) : mn a b ≤ a ∧ mn a b ≤ b ∧ (mn a b = a ∨ mn a b = b) := by unfold mn; split <;> omega
theorem Bd.step1 {b : Int} {prev row : List Int} (hp : Bd b prev) (hr : Bd (b + 2097152) row) (x : S78) (hx : -2097152 ≤ x.f2) : Bd (b + 2097152) (step1 prev row x) := by
 unfold Q.step1
 split
 ·intro i
  rw [rd_set]
  split
  ·have := mn_le (rd row x.f0) (rd prev x.f1 + x.f2)
   have h1 := hr x.f0
   have h2 := hp x.f1
   omega
  ·exact hr i
 ·exact hr
theorem Bd.stepRow {b : Int} {prev : List Int} (hp : Bd b prev) {n : Nat} : ∀ {es : List S78} {row : List Int}, Bd (b + 2097152) row → OkE n es → Bd (b + 2097152) (stepRow prev es row)
 | [], _, hr, _ => hr
 | x :: r, row, hr, ho => by
  have h1 := Bd.step1 hp hr x (ho x (by simp)).2.2.2.2.1
  exact Bd.stepRow (es := r) hp h1 (fun y hy => ho y (by simp [hy]))
theorem Bd.free (b : Int) (hb : 0 ≤ b) (k : Nat) : Bd b (List.replicate k FREE) := by
 intro i
 simp only [rd, List.getD_eq_getElem?_getD, List.getElem?_replicate]
 unfold FREE
 split <;> simp <;> omega
theorem ways_bd {n : Nat} {es : List S78} (ho : OkE n es) (t : Int) : ∀ s : Nat, Bd ((s : Int) * 2097152) (ways n es t s)
 | 0 => by
  intro i
  rw [ways, rd_set]
  split
  ·unfold FREE; omega
  ·exact Bd.free _ (by omega) _ i
 | s + 1 => by
  have h := ways_bd ho t s
  have := Bd.stepRow h (Bd.free ((s : Int) * 2097152 + 2097152) (by omega) (n + 1)) ho
  have e : ((s + 1 : Nat) : Int) * 2097152 = (s : Int) * 2097152 + 2097152 := by omega
  rw [e]
  exact this
/-- The table when s rows are there. -/
def tab (n : Nat) (es : List S78) (t : Int) (s : Nat) : List (List Int) := (List.range s).map (ways n es t)
theorem tab_len (n : Nat) (es : List S78) (t : Int) (s : Nat) : (tab n es t s).length = s := by simp [tab]
theorem tab_succ (n : Nat) (es : List S78) (t : Int) (s : Nat) : tab n es t (s + 1) = tab n es t s ++ [ways n es t s] := by simp [tab, List.range_succ]
theorem tab_get (n : Nat) (es : List S78) (t : Int) (s i : Nat) (h : i < s) : rd_L4 (tab n es t s) (i : Int) = ways n es t i := by
 simp [rd_L4, tab, List.getD_eq_getElem?_getD, h]
end Go.Proofs.Ytcnkjcbjlopkmaa.Q
