/- What closed computes, as a plain function of the table. -/
import Derived.Test.YtcnkjcbjlopkmaaFw
import Derived.Test.YtcnkjcbjlopkmaaQ4
namespace Go.Proofs.Ytcnkjcbjlopkmaa.Q
open Go.RowKit Go.Proofs.YtcnkjcbjlopkmaaW.PrintWords Go.Proofs.YtcnkjcbjlopkmaaW.PrintLast Go.Proofs.YtcnkjcbjlopkmaaW.PrintMore
set_option linter.unusedVariables false
set_option linter.unusedSimpArgs false
def rowL (N : Nat) (t : Nat → Int) : List Int := (List.range N).map t
def tabOf (N : Nat) (T : Tb) : List (List Int) := (List.range N).map fun i => rowL N (T i)
theorem rowL_len (N : Nat) (t : Nat → Int) : (rowL N t).length = N := by simp [rowL]
theorem rowL_get {N : Nat} (t : Nat → Int) {k : Nat} (h : k < N) : rd (rowL N t) (k : Int) = t k := by simp [rd, rowL, List.getD_eq_getElem?_getD, h]
theorem tabOf_len (N : Nat) (T : Tb) : (tabOf N T).length = N := by simp [tabOf]
theorem tabOf_row {N : Nat} (T : Tb) {i : Nat} (h : i < N) : rd_L4 (tabOf N T) (i : Int) = rowL N (T i) := by simp [rd_L4, tabOf, List.getD_eq_getElem?_getD, h]
theorem rowL_set {N : Nat} (t : Nat → Int) (k : Nat) (v : Int) : (rowL N t).set k v = rowL N (fun b => if b = k then v else t b) := by
 apply List.ext_getElem?
 intro j
 simp only [rowL, List.getElem?_set, List.length_map, List.length_range, List.getElem?_map, List.getElem?_range]
 by_cases hj : j < N
 ·by_cases h : k = j
  ·subst h
   simp [hj]
  ·simp [h, hj, show ¬ j = k from fun e => h e.symm]
 ·by_cases h : k = j
  ·subst h
   simp [hj]
  ·simp [h, hj]
theorem tabOf_set {N : Nat} (T : Tb) {i : Nat} (hi : i < N) (k : Nat) (v : Int) : (tabOf N T).set i ((rowL N (T i)).set k v) = tabOf N (upd T i k v) := by
 rw [rowL_set]
 apply List.ext_getElem?
 intro j
 simp only [tabOf, List.getElem?_set, List.length_map, List.length_range, List.getElem?_map, List.getElem?_range]
 by_cases hj : j < N
 ·by_cases h : i = j
  ·subst h
   simp only [hj, if_true, List.getElem?_range, Option.map_some]
   congr 1
   unfold upd
   congr 1
   funext b
   simp
  ·simp only [h, if_false, hj, Option.map_some, List.getElem?_range]
   congr 1
   unfold upd
   congr 1
   funext b
   simp [show ¬ j = i from fun e => h e.symm]
 ·by_cases h : i = j
  ·subst h
   exact absurd hi hj
  ·simp [h, hj]
def negFrom (S : Tb) : Nat → Nat → Bool
 | 0, _ => false
 | d + 1, i => if S i i < 0 then true else negFrom S d (i + 1)
theorem negFrom_iff (S : Tb) : ∀ d i, negFrom S d i = true ↔ ∃ a, i ≤ a ∧ a < i + d ∧ S a a < 0
 | 0, i => by simp [negFrom]; intro a h1 h2; omega
 | d + 1, i => by
  unfold negFrom
  by_cases h : S i i < 0
  ·rw [if_pos h]
   simp only [true_iff]
   exact ⟨i, by omega, by omega, h⟩
  ·rw [if_neg h, negFrom_iff S d (i + 1)]
   refine ⟨fun ⟨a, h1, h2, h3⟩ => ⟨a, by omega, by omega, h3⟩, fun ⟨a, h1, h2, h3⟩ => ⟨a, ?_, by omega, h3⟩⟩
   have : ¬ a = i := fun e => h (e ▸ h3)
   omega
theorem negFrom_negB (N : Nat) (S : Tb) : negFrom S N 0 = negB N S := by
 cases h : negB N S with
 | true =>
  obtain ⟨i, h1, h2⟩ := (negB_iff N S).1 h
  exact (negFrom_iff S N 0).2 ⟨i, by omega, by omega, h2⟩
 | false =>
  cases h2 : negFrom S N 0 with
  | false => rfl
  | true =>
   obtain ⟨a, _, h3, h4⟩ := (negFrom_iff S N 0).1 h2
   have := (negB_iff N S).2 ⟨a, by omega, h4⟩
   rw [h] at this
   cases this
def edgesT (es : List S78) : Nat → Nat → Tb → Tb
 | 0, _, T => T
 | d + 1, e, T => edgesT es d (e + 1) (upd T (rd_T78 es e).f0.toNat (rd_T78 es e).f1.toNat (mn (T (rd_T78 es e).f0.toNat (rd_T78 es e).f1.toNat) (rd_T78 es e).f2))
section
variable {n : Int} {N : Nat} {r : List (List Int) × Bool}
end
end Go.Proofs.Ytcnkjcbjlopkmaa.Q
