/- For all closures, with a number changed, and any tables, and lists of values, also too long ones, Range returns the numbers and the error of the reference model. No condition. -/
import Derived.Test.YtcnkjcbjlopkmaaRgp
import Derived.Test.YtcnkjcbjlopkmaaRng
import Derived.Test.YtcnkjcbjlopkmaaRcl
import Derived.Test.YtcnkjcbjlopkmaaMad
import Derived.Test.YtcnkjcbjlopkmaaTak
import Derived.DataShut
namespace Go.Proofs.Ytcnkjcbjlopkmaa.Pure
open Go.RowKit Go.Proofs.Ytcnkjcbjlopkmaa.Q Go.Proofs.YtcnkjcbjlopkmaaW.PrintWords Go.Proofs.YtcnkjcbjlopkmaaW.PrintLast Go.Proofs.YtcnkjcbjlopkmaaW.PrintMore
set_option linter.unusedVariables false
set_option linter.unusedSimpArgs false

theorem wfI {x : Int} (h : (Lit.int .i64 x).wf = true) : I64 x := by
  rw [Lit.wf_int_iff] at h
  exact ⟨h.1, h.2⟩
theorem tabOf_rows (N : Nat) (S : Tb) : (tabOf N S).length = N ∧ ∀ x ∈ tabOf N S, x.length = N := by
  refine ⟨tabOf_len N S, fun x hx => ?_⟩
  unfold tabOf at hx
  obtain ⟨a, -, rfl⟩ := List.mem_map.1 hx
  exact rowL_len _ _
/-- What Close returns is square and small. -/
theorem closeS_sq (n : Int) (l : List S55) : (closeS n l).1.length ≤ 11 ∧ ∀ x ∈ (closeS n l).1, x.length = (closeS n l).1.length := by
  unfold closeS
  by_cases hv : validS n l = 0
  · obtain ⟨n0, n1, -, -⟩ := validS_ok hv
    rw [if_pos hv]
    split
    · exact ⟨by simp, fun x hx => by simp at hx⟩
    · obtain ⟨h1, h2⟩ := tabOf_rows (n.toNat + 1) (run (n.toNat + 1) (T1 (l.map (edgeOf n))) (n.toNat + 1))
      exact ⟨by show (tabOf _ _).length ≤ _; omega, fun x hx => by show x.length = (tabOf _ _).length; rw [h2 x hx, h1]⟩
  · rw [if_neg hv]
    exact ⟨by simp, fun x hx => by simp at hx⟩
theorem rdL6 {c : List (List (List Int))} {i : Nat} (h : i < c.length) : rd_L6 c (i : Int) = c[i] := by simp [rd_L6, List.getD_eq_getElem?_getD, h]
section
variable {vs : List Int} {ts : List (List (List Int))}
theorem rg_l3 (hts : ts.length ≤ 4) (ht : ∀ t ∈ ts, t.length ≤ 100) {i : Nat} (hi : i < ts.length) (hk : Ev (fun f => l14_BoundsRanges.l2 f vs ts ((i + 1 : Nat) : Int)) true) : ∀ (d k : Nat), k + d = 9 →
    Ev (fun f => l14_BoundsRanges.l3 f vs ts (i : Int) (k : Int)) true
  | 0, k, h => by
    have hj : Ev (fun f => l14_BoundsRanges.j6 f vs ts (i : Int) (k : Int) false) true := by
      refine Ev.step (fun f => ?_) hk
      rw [l14_BoundsRanges.j6, if_neg (by simp), wrap_nat i (by omega)]
    refine Ev.step (fun f => ?_) hj
    rw [l14_BoundsRanges.l3, decide_eq_false (show ¬ (k : Int) < 8 by omega)]
    split <;> rfl
  | d + 1, k, h => by
    have hjf : Ev (fun f => l14_BoundsRanges.j6 f vs ts (i : Int) (k : Int) false) true := by
      refine Ev.step (fun f => ?_) hk
      rw [l14_BoundsRanges.j6, if_neg (by simp), wrap_nat i (by omega)]
    by_cases h1 : (k : Int) ≤ (vs.length : Int)
    · by_cases h2 : (k : Int) < 8
      · have ih := rg_l3 hts ht hi hk d (k + 1) (by omega)
        have hT := ht _ (List.getElem_mem hi)
        have hr := range_f ts[i] (vs.take k) (by rw [List.length_take]; omega) (by omega)
        have hb : Ev (fun f => (bounds_Range.f ts[i] (vs.take k)).bind fun bt519 => ((r14_Range.f f ts[i] (vs.take k)).bind fun bt524 => (if bt519.1 = bt524.1 then (if bt519.2.1 = bt524.2.1 then (if bt519.2.2 = bt524.2.2 then (l14_BoundsRanges.l3 f vs ts (i : Int) ((k + 1 : Nat) : Int)) else (some false)) else (some false)) else (some false)))) true := by
          refine Ev.bind (g := fun _ => bounds_Range.f ts[i] (vs.take k)) (a := rangeS ts[i] (vs.take k)) (Ev.congr (fun _ => (by unfold bounds_Range.f; rfl : bounds_Range.f ts[i] (vs.take k) = some (rangeS ts[i] (vs.take k)))) (Ev.now _)) ?_
          refine Ev.bind hr ?_
          exact Ev.congr (fun f => by rw [if_pos rfl, if_pos rfl, if_pos rfl]) ih
        have hj : Ev (fun f => l14_BoundsRanges.j6 f vs ts (i : Int) (k : Int) true) true := by
          refine Ev.step (fun f => ?_) hb
          rw [l14_BoundsRanges.j6, if_pos rfl, if_pos (by omega), if_pos (by omega), if_pos (by omega), if_pos h1, rdL6 hi, wrap_nat k (by omega), Int.toNat_natCast]
        refine Ev.step (fun f => ?_) hj
        rw [l14_BoundsRanges.l3, if_pos h1, decide_eq_true h2]
      · refine Ev.step (fun f => ?_) hjf
        rw [l14_BoundsRanges.l3, if_pos h1, decide_eq_false h2]
    · refine Ev.step (fun f => ?_) hjf
      rw [l14_BoundsRanges.l3, if_neg h1]
theorem rg_l2 (hts : ts.length ≤ 4) (ht : ∀ t ∈ ts, t.length ≤ 100) : ∀ (d i : Nat), i + d = ts.length → Ev (fun f => l14_BoundsRanges.l2 f vs ts (i : Int)) true
  | 0, i, h => by
    refine Ev.step (fun f => ?_) (Ev.bind (f := fun _ t => some t) lives_f (Ev.now _))
    rw [l14_BoundsRanges.l2, if_neg (by omega)]
  | d + 1, i, h => by
    have hi : i < ts.length := by omega
    refine Ev.step (fun f => ?_) (rg_l3 hts ht hi (rg_l2 hts ht d (i + 1) (by omega)) 9 0 (by omega))
    rw [l14_BoundsRanges.l2, if_pos (by omega)]
    rfl
end
section
variable {vs : List Int} {raw c b : List (List Int)}
theorem rg_j3 (hc : c.length ≤ 100) (hb : b.length ≤ 100) {few : List (List Int)} (hf : few.length ≤ 100) : Ev (fun f => l14_BoundsRanges.j3 f vs c b few) true := by
  have h := rg_l2 (vs := vs) (ts := [c, b, few, []]) (by simp) (fun t ht => by simp at ht; rcases ht with rfl | rfl | rfl | rfl <;> first | assumption | simp) 4 0 rfl
  refine Ev.step (fun f => ?_) h
  rw [l14_BoundsRanges.j3]
  rfl
theorem rg_l1 (hc : c.length ≤ 100) (hb : b.length ≤ 100) : ∀ (d i : Nat) (few : List (List Int)), i + d = 12 → few.length ≤ i →
    Ev (fun f => l14_BoundsRanges.l1 f vs raw c b few (i : Int)) true
  | 0, i, few, h, hf => by
    have hj := rg_j3 (vs := vs) hc hb (few := few) (by omega)
    refine Ev.step (fun f => ?_) hj
    rw [l14_BoundsRanges.l1]
    split
    · rw [if_neg (by omega)]
    · rfl
  | d + 1, i, few, h, hf => by
    by_cases h1 : (i : Int) < (raw.length : Int)
    · have ih := rg_l1 hc hb d (i + 1) (few ++ [(rd_L4 raw (i : Int)).take 12]) (by omega) (by simp; omega)
      refine Ev.step (fun f => ?_) ih
      have ht : r01_Take.f (rd_L4 raw (i : Int)) 12 = some ((rd_L4 raw (i : Int)).take 12) := take_f (rd_L4 raw (i : Int)) 12 (by omega)
      rw [l14_BoundsRanges.l1, if_pos h1, if_pos (by omega), if_pos (by omega), ht, Option.bind_some, if_pos (by omega), wrap_nat i (by omega)]
    · have hj := rg_j3 (vs := vs) hc hb (few := few) (by omega)
      refine Ev.step (fun f => ?_) hj
      rw [l14_BoundsRanges.l1, if_neg h1]
theorem rg_j1 (hc : c.length ≤ 100) (hb : b.length ≤ 100) : Ev (fun f => l14_BoundsRanges.j1 f vs raw c b) true := by
  refine Ev.step (fun f => ?_) (rg_l1 (vs := vs) (raw := raw) hc hb 12 0 [] (by omega) (by simp))
  rw [l14_BoundsRanges.j1]
  rfl
theorem rg_l0 (hc : c.length ≤ 11) (hs : ∀ x ∈ c, x.length = c.length) {a2 a3 : Int} (h2 : I64 a2) (h3 : I64 a3) : ∀ (d i : Nat), i + d = c.length →
    Ev (fun f => l14_BoundsRanges.l0 f vs raw a2 a3 c (c.take i) (i : Int)) true
  | 0, i, h => by
    have e : c.take i = c := List.take_of_length_le (by omega)
    rw [e]
    by_cases hp : (c.length : Int) > 0
    · have b0 := ar_nonneg a2 c.length
      have b1 := ar_lt a2 c.length (by omega)
      have d0 := ar_nonneg (wrap64 (Int.tdiv a2 11)) c.length
      have d1 := ar_lt (wrap64 (Int.tdiv a2 11)) c.length (by omega)
      have q0 := ar_nonneg a3 5
      have q1 := ar_lt a3 5 (by omega)
      have hA := around_f (m := (c.length : Int)) h2
      have hB := around_f (m := (c.length : Int)) (wrap64_I (Int.tdiv a2 11))
      have hC := around_f (m := 5) h3
      obtain ⟨x, hx⟩ := Int.eq_ofNat_of_zero_le b0
      rw [hx] at b0 b1 hA
      have hxl : x < c.length := by omega
      have hrow : (rd_L4 c (x : Int)).length = c.length := by rw [rdL4 hxl]; exact hs _ (List.getElem_mem hxl)
      have hj := rg_j1 (vs := vs) (raw := raw) (c := c) (b := c.set x ((rd_L4 c (x : Int)).set (ar (wrap64 (Int.tdiv a2 11)) c.length).toNat (rd [a3, 1099511627776, -1099511627776, 1099511627777, 0] (ar a3 5)))) (by omega) (by rw [List.length_set]; omega)
      refine Ev.step (fun f => ?_) hj
      rw [l14_BoundsRanges.l0, if_neg (by omega), if_pos hp, hA, Option.bind_some, hB, Option.bind_some, hC, Option.bind_some, if_pos b0, if_pos b1, if_pos d0, if_pos (by rw [hrow]; exact d1), if_pos q0, if_pos q1, Int.toNat_natCast]
    · have hj := rg_j1 (vs := vs) (raw := raw) (c := c) (b := c) (by omega) (by omega)
      refine Ev.step (fun f => ?_) hj
      rw [l14_BoundsRanges.l0, if_neg (by omega), if_neg hp]
  | d + 1, i, h => by
    have hi : i < c.length := by omega
    have ih := rg_l0 hc hs h2 h3 d (i + 1) (by omega)
    have hrow : (rd_L4 c (i : Int)).length = c.length := by rw [rdL4 hi]; exact hs _ (List.getElem_mem hi)
    refine Ev.step (fun f => ?_) ih
    rw [l14_BoundsRanges.l0, if_pos (by omega), Option.bind_some, if_pos (by omega), if_pos (by rw [hrow]; simp; omega), if_pos (by rw [List.length_take]; omega), wrap_nat i (by omega), List.nil_append, rdL4 hi, List.take_succ_eq_append_getElem hi]
end
theorem BoundsRanges : l14_BoundsRanges.Pure := by
  intro l0 l1 a2 a3 l4 _ h0 _ _ h2 h3 _
  obtain ⟨n, d, hM, n1, n5, hdl⟩ := made_f (l := l0) (fun x hx => wfI (h0 x hx))
  have hsq := closeS_sq (n : Int) (d.map o55)
  have hl := rg_l0 (vs := l1) (raw := l4) hsq.1 hsq.2 (wfI h2) (wfI h3) (closeS (n : Int) (d.map o55)).1.length 0 (by omega)
  refine Ev.rounds ?_
  unfold l14_BoundsRanges.f
  refine Ev.bind hM ?_
  refine Ev.bind (refClose_f (n : Int) d) ?_
  exact hl
end Go.Proofs.Ytcnkjcbjlopkmaa.Pure
