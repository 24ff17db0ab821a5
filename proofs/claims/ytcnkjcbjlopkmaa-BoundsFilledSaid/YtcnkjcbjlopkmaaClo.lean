/- What closed computes, as a plain function of the table. -/
import Derived.Test.YtcnkjcbjlopkmaaFw
import Derived.Test.YtcnkjcbjlopkmaaQ4
namespace Go.Proofs.Ytcnkjcbjlopkmaa.Q
open Go.RowKit Go.Proofs.YtcnkjcbjlopkmaaW.PrintWords Go.Proofs.YtcnkjcbjlopkmaaW.PrintLast Go.Proofs.YtcnkjcbjlopkmaaW.PrintMore
set_option linter.unusedVariables false
set_option linter.unusedSimpArgs false
def rowL (N : Nat) (t : Nat → Int) : List Int := (List.range N).map t
def tabOf (N : Nat) (T : Tb) : List (List Int) := (List.range N).map fun i => rowL N (T i)
theorem rowL_len (N : Nat) (t : Nat → Int) : (rowL N t).length = N := by simp [rowL]
theorem rowL_get {N : Nat} (t : Nat → Int) {k : Nat} (h : k < N) : rd (rowL N t) (k : Int) = t k := by simp [rd, rowL, List.getD_eq_getElem?_getD, h]
theorem tabOf_len (N : Nat) (T : Tb) : (tabOf N T).length = N := by simp [tabOf]
theorem tabOf_row {N : Nat} (T : Tb) {i : Nat} (h : i < N) : rd_L4 (tabOf N T) (i : Int) = rowL N (T i) := by simp [rd_L4, tabOf, List.getD_eq_getElem?_getD, h]
theorem rowL_set {N : Nat} (t : Nat → Int) (k : Nat) (v : Int) : (rowL N t).set k v = rowL N (fun b => if b = k then v else t b) := by
 apply List.ext_getElem?
 intro j
 simp only [rowL, List.getElem?_set, List.length_map, List.length_range, List.getElem?_map, List.getElem?_range]
 by_cases hj : j < N
 ·by_cases h : k = j
  ·subst h
   simp [hj]
  ·simp [h, hj, show ¬ j = k from fun e => h e.symm]
 ·by_cases h : k = j
  ·subst h
   simp [hj]
  ·simp [h, hj]
theorem tabOf_set {N : Nat} (T : Tb) {i : Nat} (hi : i < N) (k : Nat) (v : Int) : (tabOf N T).set i ((rowL N (T i)).set k v) = tabOf N (upd T i k v) := by
 rw [rowL_set]
 apply List.ext_getElem?
 intro j
 simp only [tabOf, List.getElem?_set, List.length_map, List.length_range, List.getElem?_map, List.getElem?_range]
 by_cases hj : j < N
 ·by_cases h : i = j
  ·subst h
   simp only [hj, if_true, List.getElem?_range, Option.map_some]
   congr 1
   unfold upd
   congr 1
   funext b
   simp
  ·simp only [h, if_false, hj, Option.map_some, List.getElem?_range]
   congr 1
   unfold upd
   congr 1
   funext b
   simp [show ¬ j = i from fun e => h e.symm]
 ·by_cases h : i = j
  ·subst h
   exact absurd hi hj
  ·simp [h, hj]
def negFrom (S : Tb) : Nat → Nat → Bool
 | 0, _ => false
 | d + 1, i => if S i i < 0 then true else negFrom S d (i + 1)
theorem negFrom_iff (S : Tb) : ∀ d i, negFrom S d i = true ↔ ∃ a, i ≤ a ∧ a < i + d ∧ S a a < 0
 | 0, i => by simp [negFrom]; intro a h1 h2; omega
 | d + 1, i => by
  unfold negFrom
  by_cases h : S i i < 0
  ·rw [if_pos h]
   simp only [true_iff]
   exact ⟨i, by omega, by omega, h⟩
  ·rw [if_neg h, negFrom_iff S d (i + 1)]
   refine ⟨fun ⟨a, h1, h2, h3⟩ => ⟨a, by omega, by omega, h3⟩, fun ⟨a, h1, h2, h3⟩ => ⟨a, ?_, by omega, h3⟩⟩
   have : ¬ a = i := fun e => h (e ▸ h3)
   omega
theorem negFrom_negB (N : Nat) (S : Tb) : negFrom S N 0 = negB N S := by
 cases h : negB N S with
 | true =>
  obtain ⟨i, h1, h2⟩ := (negB_iff N S).1 h
  exact (negFrom_iff S N 0).2 ⟨i, by omega, by omega, h2⟩
 | false =>
  cases h2 : negFrom S N 0 with
  | false => rfl
  | true =>
   obtain ⟨a, _, h3, h4⟩ := (negFrom_iff S N 0).1 h2
   have := (negB_iff N S).2 ⟨a, by omega, h4⟩
   rw [h] at this
   cases this
def edgesT (es : List S78) : Nat → Nat → Tb → Tb
 | 0, _, T => T
 | d + 1, e, T => edgesT es d (e + 1) (upd T (rd_T78 es e).f0.toNat (rd_T78 es e).f1.toNat (mn (T (rd_T78 es e).f0.toNat (rd_T78 es e).f1.toNat) (rd_T78 es e).f2))
section
variable {n : Int} {N : Nat} {r : List (List Int) × Bool}
theorem c_l5 (hN : N ≤ 11) (S : Tb) : ∀ d i, i + d = N → Ev (fun k => bounds_closed.l5 k (tabOf N S) (N : Int) (i : Int)) (if negFrom S d i then ([], false) else (tabOf N S, true))
 | 0, i, hi => by
  refine Ev.step (f := fun _ => some (tabOf N S, true)) (fun k => ?_) (Ev.now _)
  unfold bounds_closed.l5
  rw [if_neg (by omega)]
 | d + 1, i, hi => by
  have hl : i < N := by omega
  unfold negFrom
  by_cases h : S i i < 0
  ·rw [if_pos h]
   refine Ev.step (f := fun _ => some ([], false)) (fun k => ?_) (Ev.now _)
   unfold bounds_closed.l5
   rw [tabOf_row S hl, rowL_get (S i) hl, tabOf_len, rowL_len, if_pos (by omega), if_pos (by omega), if_pos (by omega), if_pos (by omega), if_pos h]
  ·rw [if_neg h]
   refine Ev.step (fun k => ?_) (c_l5 hN S d (i + 1) (by omega))
   show bounds_closed.l5 (k + 1) (tabOf N S) (N : Int) (i : Int) = _
   conv => lhs; unfold bounds_closed.l5
   rw [tabOf_row S hl, rowL_get (S i) hl, tabOf_len, rowL_len, if_pos (by omega), if_pos (by omega), if_pos (by omega), if_pos (by omega), if_neg h, wrap_nat i (by omega)]
theorem c_l4 (hN : N ≤ 11) (t : Nat → Int) {j i : Nat} (hj : j < N) (hi : i < N) (x13 : List Int) (x67 x68 : Int) : ∀ d k S, k + d = N →
  Ev (fun f => bounds_closed.l3 f n (tabOf N (rowP t j i d k S)) (j : Int) (rowL N t) x67 x68 (N : Int) ((i + 1 : Nat) : Int)) r →
  Ev (fun f => bounds_closed.l4 f n (tabOf N S) (j : Int) (rowL N t) (i : Int) x13 x67 x68 (N : Int) (i : Int) (N : Int) (k : Int)) r
 | 0, k, S, hk, h => by
  refine Ev.step (fun f => ?_) h
  conv => lhs; unfold bounds_closed.l4
  rw [if_neg (by omega), wrap_nat i (by omega)]
  rfl
 | d + 1, k, S, hk, h => by
  have hl : k < N := by omega
  unfold rowP at h
  by_cases hf : t k < FREE
  ·rw [if_pos hf] at h
   refine Ev.step (fun f => ?_) (c_l4 hN t hj hi x13 x67 x68 d (k + 1) _ (by omega) h)
   conv => lhs; unfold bounds_closed.l4
   rw [tabOf_row S hi, rowL_get (S i) hl, rowL_get (S i) hj, rowL_get t hl, tabOf_len, rowL_len, rowL_len, if_pos (by omega), if_pos (by omega), if_pos (by omega), if_pos (show t k < 1099511627776 from hf), if_pos (by omega), if_pos (by omega), if_pos (by omega), if_pos (by omega), if_pos (by omega), if_pos (by omega), wrap_nat k (by omega), Int.toNat_natCast, Int.toNat_natCast, tabOf_set S hi]
  ·rw [if_neg hf] at h
   refine Ev.step (fun f => ?_) (c_l4 hN t hj hi x13 x67 x68 d (k + 1) _ (by omega) h)
   conv => lhs; unfold bounds_closed.l4
   rw [rowL_get t hl, rowL_len, if_pos (by omega), if_pos (by omega), if_pos (by omega), if_neg (show ¬ t k < 1099511627776 from hf), wrap_nat k (by omega)]
theorem c_l3 (hN : N ≤ 11) (t : Nat → Int) {j : Nat} (hj : j < N) (x67 : Int) : ∀ d i S, i + d = N →
  Ev (fun f => bounds_closed.l2 f n (tabOf N (rowsP N t j d i S)) x67 ((j + 1 : Nat) : Int)) r →
  Ev (fun f => bounds_closed.l3 f n (tabOf N S) (j : Int) (rowL N t) x67 (j : Int) (N : Int) (i : Int)) r
 | 0, i, S, hi, h => by
  refine Ev.step (fun f => ?_) h
  conv => lhs; unfold bounds_closed.l3
  rw [if_neg (by omega), wrap_nat j (by omega)]
  rfl
 | d + 1, i, S, hi, h => by
  have hl : i < N := by omega
  unfold rowsP at h
  by_cases hf : S i j ≥ FREE
  ·rw [if_pos hf] at h
   refine Ev.step (fun f => ?_) (c_l3 hN t hj x67 d (i + 1) _ (by omega) h)
   conv => lhs; unfold bounds_closed.l3
   rw [tabOf_row S hl, rowL_get (S i) hj, tabOf_len, rowL_len, if_pos (by omega), if_pos (by omega), if_pos (by omega), if_pos (by omega), if_pos (by omega), if_pos (show S i j ≥ 1099511627776 from hf), wrap_nat i (by omega)]
  ·rw [if_neg hf] at h
   refine Ev.step (fun f => ?_) (c_l4 hN t hj hl (rowL N (S i)) x67 (j : Int) N 0 S (by omega) (c_l3 hN t hj x67 d (i + 1) _ (by omega) h))
   conv => lhs; unfold bounds_closed.l3
   rw [tabOf_row S hl, rowL_get (S i) hj, tabOf_len, rowL_len, rowL_len, if_pos (by omega), if_pos (by omega), if_pos (by omega), if_pos (by omega), if_pos (by omega), if_neg (show ¬ S i j ≥ 1099511627776 from hf)]
   rfl
theorem c_l2 (hn : wrap64 (n + 1) = (N : Int)) (hN : N ≤ 11) : ∀ d j S, j + d = N →
  Ev (fun f => bounds_closed.l5 f (tabOf N (stepsP N d j S)) (N : Int) 0) r →
  Ev (fun f => bounds_closed.l2 f n (tabOf N S) (N : Int) (j : Int)) r
 | 0, j, S, hj, h => by
  refine Ev.step (fun f => ?_) h
  conv => lhs; unfold bounds_closed.l2
  rw [if_neg (by omega), tabOf_len]
  rfl
 | d + 1, j, S, hj, h => by
  have hl : j < N := by omega
  unfold stepsP at h
  refine Ev.step (fun f => ?_) (c_l3 hN (S j) hl (N : Int) N 0 S (by omega) (c_l2 hn hN d (j + 1) _ (by omega) h))
  conv => lhs; unfold bounds_closed.l2
  rw [hn, Int.toNat_natCast, if_pos (by omega), if_pos (by omega), if_pos (by omega), Option.bind_some, tabOf_row S hl, tabOf_len, if_pos (by omega), if_pos (by omega), rowL_len, List.length_replicate, Nat.min_self]
  have e1 : (rowL N (S j)).take N = rowL N (S j) := List.take_of_length_le (by rw [rowL_len]; exact Nat.le_refl _)
  have e2 : (List.replicate N (0 : Int)).drop N = [] := List.drop_of_length_le (by rw [List.length_replicate]; exact Nat.le_refl _)
  rw [e1, e2, List.append_nil]
  rfl
theorem c_l1 (hn : wrap64 (n + 1) = (N : Int)) (hN : N ≤ 11) (es : List S78) (hes : es.length ≤ 64) (ho : ∀ x ∈ es, 0 ≤ x.f0 ∧ x.f0 < (N : Int) ∧ 0 ≤ x.f1 ∧ x.f1 < (N : Int)) : ∀ d e S, e + d = es.length →
  Ev (fun f => bounds_closed.l2 f n (tabOf N (edgesT es d e S)) (N : Int) 0) r →
  Ev (fun f => bounds_closed.l1 f n (tabOf N S) es (es.length : Int) (e : Int)) r
 | 0, e, S, he, h => by
  refine Ev.step (fun f => ?_) h
  conv => lhs; unfold bounds_closed.l1
  rw [if_neg (by omega), tabOf_len]
  rfl
 | d + 1, e, S, he, h => by
  have hl : e < es.length := by omega
  unfold edgesT at h
  have hx := ho (rd_T78 es e) (by simp [rd_T78, List.getD_eq_getElem?_getD, hl])
  refine Ev.step (fun f => ?_) (c_l1 hn hN es hes ho d (e + 1) _ (by omega) h)
  conv => lhs; unfold bounds_closed.l1
  generalize rd_T78 es e = x at hx ⊢
  obtain ⟨xa, xb, xn⟩ := x
  obtain ⟨o1, o2, o3, o4⟩ := hx
  simp only at o1 o2 o3 o4 ⊢
  obtain ⟨ya, rfl⟩ := Int.eq_ofNat_of_zero_le o1
  obtain ⟨yb, rfl⟩ := Int.eq_ofNat_of_zero_le o3
  have hya : ya < N := by omega
  have hyb : yb < N := by omega
  rw [tabOf_row S hya, rowL_get (S ya) hyb, tabOf_len, rowL_len, if_pos (by omega), if_pos (by omega), if_pos (by omega), if_pos (by omega), if_pos (by omega), if_pos (by omega), if_pos (by omega), wrap_nat e (by omega), Int.toNat_natCast, Int.toNat_natCast, tabOf_set S hya]
end
end Go.Proofs.Ytcnkjcbjlopkmaa.Q
