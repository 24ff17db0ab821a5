/- What closed and the reference's Close compute. -/
import Derived.Test.YtcnkjcbjlopkmaaClo
import Derived.Test.YtcnkjcbjlopkmaaCyc1
import Derived.Test.YtcnkjcbjlopkmaaQ5
import Derived.Test.YtcnkjcbjlopkmaaQ7
namespace Go.Proofs.Ytcnkjcbjlopkmaa.Q
open Go.RowKit Go.Proofs.YtcnkjcbjlopkmaaW.PrintWords Go.Proofs.YtcnkjcbjlopkmaaW.PrintLast Go.Proofs.YtcnkjcbjlopkmaaW.PrintMore
set_option linter.unusedVariables false
set_option linter.unusedSimpArgs false
def mapL (N : Nat) (g : Nat → List Int) : List (List Int) := (List.range N).map g
theorem mapL_len (N : Nat) (g : Nat → List Int) : (mapL N g).length = N := by simp [mapL]
theorem mapL_get {N : Nat} (g : Nat → List Int) {i : Nat} (h : i < N) : rd_L4 (mapL N g) (i : Int) = g i := by simp [rd_L4, mapL, List.getD_eq_getElem?_getD, h]
theorem mapL_set {N : Nat} (g : Nat → List Int) (i : Nat) (v : List Int) : (mapL N g).set i v = mapL N (fun a => if a = i then v else g a) := by
 apply List.ext_getElem?
 intro j
 simp only [mapL, List.getElem?_set, List.length_map, List.length_range, List.getElem?_map, List.getElem?_range]
 by_cases hj : j < N
 ·by_cases h : i = j
  ·subst h
   simp [hj]
  ·simp [h, hj, show ¬ j = i from fun e => h e.symm]
 ·by_cases h : i = j
  ·subst h
   simp [hj]
  ·simp [h, hj]
theorem mapL_congr {N : Nat} {g g' : Nat → List Int} (h : ∀ a, a < N → g a = g' a) : mapL N g = mapL N g' := by
 unfold mapL
 exact List.map_congr_left (fun a ha => h a (List.mem_range.1 ha))
def idT : Tb := fun a b => if a = b then 0 else FREE
theorem rowL_rep (N : Nat) (x : Int) : List.replicate N x = rowL N (fun _ => x) := by
 apply List.ext_getElem?
 intro j
 simp only [rowL, List.getElem?_replicate, List.getElem?_map, List.getElem?_range]
 by_cases hj : j < N <;> simp [hj]
theorem rep_ok (N : Nat) (h1 : 1 ≤ N) (h2 : N ≤ 11) : slices_Repeat_int_int.f [1099511627776] (N : Int) = some (rowL N (fun _ => FREE)) := by
 unfold slices_Repeat_int_int.f
 rw [if_pos ⟨rfl, by omega, by omega⟩, ← rowL_rep]
 rfl
def initL (N i : Nat) : List (List Int) := mapL N (fun a => if a < i then rowL N (idT a) else [])
theorem initL_zero (N : Nat) : List.replicate N ([] : List Int) = initL N 0 := by
 apply List.ext_getElem?
 intro j
 simp only [initL, mapL, List.getElem?_replicate, List.getElem?_map, List.getElem?_range]
 by_cases hj : j < N <;> simp [hj]
theorem initL_all (N : Nat) : initL N N = tabOf N idT := by
 unfold initL tabOf
 exact mapL_congr (fun a ha => by rw [if_pos ha])
theorem initL_succ {N i : Nat} (hi : i < N) : (mapL N (fun a => if a = i then rowL N (idT i) else if a < i then rowL N (idT a) else [])) = initL N (i + 1) := by
 unfold initL
 refine mapL_congr (fun a ha => ?_)
 by_cases h : a = i
 ·subst h
  rw [if_pos rfl, if_pos (by omega)]
 ·rw [if_neg h]
  by_cases h2 : a < i
  ·rw [if_pos h2, if_pos (by omega)]
  ·rw [if_neg h2, if_neg (by omega)]
section
variable {n : Int} {N : Nat} {r : List (List Int) × Bool}
theorem c_l0 (hn : wrap64 (n + 1) = (N : Int)) (hN1 : 1 ≤ N) (hN : N ≤ 11) (es : List S78) : ∀ d i, i + d = N →
  Ev (fun f => bounds_closed.l1 f n (tabOf N idT) es (es.length : Int) 0) r →
  Ev (fun f => bounds_closed.l0 f n es (initL N i) (N : Int) (i : Int)) r
 | 0, i, hi, h => by
  refine Ev.step (fun f => ?_) h
  conv => lhs; unfold bounds_closed.l0
  rw [if_neg (by omega), show i = N by omega, initL_all]
  first | done | rfl
 | d + 1, i, hi, h => by
  have hl : i < N := by omega
  refine Ev.step (fun f => ?_) (c_l0 hn hN1 hN es d (i + 1) (by omega) h)
  conv => lhs; unfold bounds_closed.l0
  rw [if_pos (by omega), hn, rep_ok N hN1 hN, Option.bind_some, if_pos (by omega)]
  unfold initL
  rw [mapL_len, if_pos (by omega), Option.bind_some, Int.toNat_natCast, mapL_set, mapL_get _ hl, if_pos rfl, rowL_len, if_pos (by omega), rowL_set, mapL_set, wrap_nat i (by omega)]
  have e : mapL N (fun a => if a = i then rowL N (fun b => if b = i then 0 else FREE) else if a = i then rowL N (fun _ => FREE) else if a < i then rowL N (idT a) else []) = initL N (i + 1) := by
   rw [← initL_succ hl]
   refine mapL_congr (fun a ha => ?_)
   by_cases h : a = i
   ·subst h
    rw [if_pos rfl, if_pos rfl]
    congr 1
    funext b
    unfold idT
    by_cases hb : b = a
    ·rw [if_pos hb, if_pos hb.symm]
    ·rw [if_neg hb, if_neg (fun e => hb e.symm)]
   ·rw [if_neg h, if_neg h, if_neg h]
  rw [e]
  first | done | rfl
end
def T1 (es : List S78) : Tb := edgesT es es.length 0 idT
def closedS (N : Nat) (es : List S78) : List (List Int) × Bool := if negB N (run N (T1 es) N) = true then ([], false) else (tabOf N (run N (T1 es) N), true)
theorem upd_bnd {N : Nat} {T : Tb} {i k : Nat} {x : Int} (h : Bnd N 2097152 T) (h1 : -2097152 ≤ x) (h2 : x ≤ 2097152) : Bnd N 2097152 (upd T i k (mn (T i k) x)) := by
 intro a b ha hb
 have h3 := h a b ha hb
 unfold upd
 split
 ·rename_i hh
  rw [← hh.1, ← hh.2]
  have h4 := mn_le' (T a b) x
  have hF : FREE = 1099511627776 := rfl
  refine ⟨?_, ?_, fun _ => ?_⟩
  ·rcases h4.2.2 with e | e <;> rw [e] <;> omega
  ·omega
  ·omega
 ·exact h3
theorem edgesT_bnd {N n : Nat} (es : List S78) (ho : OkE n es) : ∀ d e T, e + d = es.length → Bnd N 2097152 T → Bnd N 2097152 (edgesT es d e T)
 | 0, e, T, he, h => h
 | d + 1, e, T, he, h => by
  have hl : e < es.length := by omega
  have hx := ho (rd_T78 es e) (by simp [rd_T78, List.getD_eq_getElem?_getD, hl])
  exact edgesT_bnd es ho d (e + 1) _ (by omega) (upd_bnd h hx.2.2.2.2.1 hx.2.2.2.2.2)
theorem idT_bnd (N : Nat) : Bnd N 2097152 idT := by
 intro a b _ _
 have hF : FREE = 1099511627776 := rfl
 unfold idT
 split
 ·omega
 ·omega
theorem T1_bnd {n : Nat} (N : Nat) {es : List S78} (ho : OkE n es) : Bnd N 2097152 (T1 es) := edgesT_bnd es ho _ _ _ (by omega) (idT_bnd N)
theorem same_res {N : Nat} {S R : Tb} {α : Type} (f : List (List Int) → α) (e : α) (h : Same N S R) : (if negB N S = true then e else f (tabOf N S)) = (if negB N R = true then e else f (tabOf N R)) := by
 rcases h with rfl | ⟨h1, h2⟩
 ·rfl
 ·rw [if_pos h1, if_pos h2]
theorem closed_f (n : Nat) (hn : n ≤ 10) (es : List S78) (ho : OkE n es) (hl : es.length ≤ 64) : Ev (fun k => bounds_closed.f k (n : Int) es) (closedS (n + 1) es) := by
 have hw : wrap64 ((n : Int) + 1) = ((n + 1 : Nat) : Int) := wrap_nat n (by omega)
 have hb := T1_bnd (n + 1) ho
 have hs := stepsP_run hb (by omega) (n + 1) 0 (T1 es) (by omega) (.inl rfl)
 have e1 : closedS (n + 1) es = if negFrom (stepsP (n + 1) (n + 1) 0 (T1 es)) (n + 1) 0 = true then ([], false) else (tabOf (n + 1) (stepsP (n + 1) (n + 1) 0 (T1 es)), true) := by
  rw [negFrom_negB]
  exact (same_res (fun t => (t, true)) ([], false) hs).symm
 rw [e1]
 have h5 := c_l5 (N := n + 1) (by omega) (stepsP (n + 1) (n + 1) 0 (T1 es)) (n + 1) 0 (by omega)
 have h2 := c_l2 (n := (n : Int)) hw (by omega) (n + 1) 0 (T1 es) (by omega) h5
 have h1 := c_l1 (n := (n : Int)) hw (by omega) es hl (fun x hx => by have := ho x hx; omega) es.length 0 idT (by omega) h2
 have h0 := c_l0 (n := (n : Int)) hw (by omega) (by omega) es (n + 1) 0 (by omega) h1
 refine Ev.congr (fun k => ?_) h0
 unfold bounds_closed.f
 rw [hw, if_pos (by omega), if_pos (by omega), Option.bind_some, Int.toNat_natCast, initL_zero]
 unfold initL
 rw [mapL_len]
 rfl
end Go.Proofs.Ytcnkjcbjlopkmaa.Q
