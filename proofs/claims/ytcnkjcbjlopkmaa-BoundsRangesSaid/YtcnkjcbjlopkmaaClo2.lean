/- What closed and the reference's Close compute. -/
import Derived.Test.YtcnkjcbjlopkmaaClo
import Derived.Test.YtcnkjcbjlopkmaaCyc1
import Derived.Test.YtcnkjcbjlopkmaaQ5
import Derived.Test.YtcnkjcbjlopkmaaQ7
namespace Go.Proofs.Ytcnkjcbjlopkmaa.Q
open Go.RowKit Go.Proofs.YtcnkjcbjlopkmaaW.PrintWords Go.Proofs.YtcnkjcbjlopkmaaW.PrintLast Go.Proofs.YtcnkjcbjlopkmaaW.PrintMore
set_option linter.unusedVariables false
set_option linter.unusedSimpArgs false
def mapL (N : Nat) (g : Nat → List Int) : List (List Int) := (List.range N).map g
theorem mapL_len (N : Nat) (g : Nat → List Int) : (mapL N g).length = N := by simp [mapL]
theorem mapL_get {N : Nat} (g : Nat → List Int) {i : Nat} (h : i < N) : rd_L4 (mapL N g) (i : Int) = g i := by simp [rd_L4, mapL, List.getD_eq_getElem?_getD, h]
theorem mapL_set {N : Nat} (g : Nat → List Int) (i : Nat) (v : List Int) : (mapL N g).set i v = mapL N (fun a => if a = i then v else g a) := by
 apply List.ext_getElem?
 intro j
 simp only [mapL, List.getElem?_set, List.length_map, List.length_range, List.getElem?_map, List.getElem?_range]
 by_cases hj : j < N
 ·by_cases h : i = j
  ·subst h
   simp [hj]
  ·simp [h, hj, show ¬ j = i from fun e => h e.symm]
 ·by_cases h : i = j
  ·subst h
   simp [hj]
  ·simp [h, hj]
theorem mapL_congr {N : Nat} {g g' : Nat → List Int} (h : ∀ a, a < N → g a = g' a) : mapL N g = mapL N g' := by
 unfold mapL
 exact List.map_congr_left (fun a ha => h a (List.mem_range.1 ha))
def idT : Tb := fun a b => if a = b then 0 else FREE
theorem rowL_rep (N : Nat) (x : Int) : List.replicate N x = rowL N (fun _ => x) := by
 apply List.ext_getElem?
 intro j
 simp only [rowL, List.getElem?_replicate, List.getElem?_map, List.getElem?_range]
 by_cases hj : j < N <;> simp [hj]
def initL (N i : Nat) : List (List Int) := mapL N (fun a => if a < i then rowL N (idT a) else [])
theorem initL_zero (N : Nat) : List.replicate N ([] : List Int) = initL N 0 := by
 apply List.ext_getElem?
 intro j
 simp only [initL, mapL, List.getElem?_replicate, List.getElem?_map, List.getElem?_range]
 by_cases hj : j < N <;> simp [hj]
theorem initL_all (N : Nat) : initL N N = tabOf N idT := by
 unfold initL tabOf
 exact mapL_congr (fun a ha => by rw [if_pos ha])
section
variable {n : Int} {N : Nat} {r : List (List Int) × Bool}
end
def T1 (es : List S78) : Tb := edgesT es es.length 0 idT
theorem upd_bnd {N : Nat} {T : Tb} {i k : Nat} {x : Int} (h : Bnd N 2097152 T) (h1 : -2097152 ≤ x) (h2 : x ≤ 2097152) : Bnd N 2097152 (upd T i k (mn (T i k) x)) := by
 intro a b ha hb
 have h3 := h a b ha hb
 unfold upd
 split
 ·rename_i hh
  rw [← hh.1, ← hh.2]
  have h4 := mn_le' (T a b) x
  have hF : FREE = 1099511627776 := rfl
  refine ⟨?_, ?_, fun _ => ?_⟩
  ·rcases h4.2.2 with e | e <;> rw [e] <;> omega
  ·omega
  ·omega
 ·exact h3
theorem edgesT_bnd {N n : Nat} (es : List S78) (ho : OkE n es) : ∀ d e T, e + d = es.length → Bnd N 2097152 T → Bnd N 2097152 (edgesT es d e T)
 | 0, e, T, he, h => h
 | d + 1, e, T, he, h => by
  have hl : e < es.length := by omega
  have hx := ho (rd_T78 es e) (by simp [rd_T78, List.getD_eq_getElem?_getD, hl])
  exact edgesT_bnd es ho d (e + 1) _ (by omega) (upd_bnd h hx.2.2.2.2.1 hx.2.2.2.2.2)
theorem idT_bnd (N : Nat) : Bnd N 2097152 idT := by
 intro a b _ _
 have hF : FREE = 1099511627776 := rfl
 unfold idT
 split
 ·omega
 ·omega
theorem T1_bnd {n : Nat} (N : Nat) {es : List S78} (ho : OkE n es) : Bnd N 2097152 (T1 es) := edgesT_bnd es ho _ _ _ (by omega) (idT_bnd N)
theorem same_res {N : Nat} {S R : Tb} {α : Type} (f : List (List Int) → α) (e : α) (h : Same N S R) : (if negB N S = true then e else f (tabOf N S)) = (if negB N R = true then e else f (tabOf N R)) := by
 rcases h with rfl | ⟨h1, h2⟩
 ·rfl
 ·rw [if_pos h1, if_pos h2]
end Go.Proofs.Ytcnkjcbjlopkmaa.Q
