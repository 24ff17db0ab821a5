/- For all differences, there is a closure exactly if there is no smallest contradiction; without any one of its differences its others can be kept; their order does not matter for the closure. No condition. -/
import Derived.Test.YtcnkjcbjlopkmaaQ19
import Derived.Test.YtcnkjcbjlopkmaaSam
import Derived.Test.YtcnkjcbjlopkmaaWl4
import Derived.Test.YtcnkjcbjlopkmaaMad
import Derived.DataShut
namespace Go.Proofs.Ytcnkjcbjlopkmaa.Pure
open Go.RowKit Go.Proofs.Ytcnkjcbjlopkmaa.Q Go.Proofs.YtcnkjcbjlopkmaaW.PrintWords Go.Proofs.YtcnkjcbjlopkmaaW.PrintLast Go.Proofs.YtcnkjcbjlopkmaaW.PrintMore
set_option linter.unusedVariables false
set_option linter.unusedSimpArgs false

theorem wfI {x : Int} (h : (Lit.int .i64 x).wf = true) : I64 x := by
  rw [Lit.wf_int_iff] at h
  exact ⟨h.1, h.2⟩
/-- The first j of a list, without the one at skip. -/
def tk (p : List Nat) (skip : Int) : Nat → List Nat
  | 0 => []
  | j + 1 => if (j : Int) = skip then tk p skip j else tk p skip j ++ [p.getD j 0]
theorem tk_mem {p : List Nat} {skip : Int} {P : Nat → Prop} (h : ∀ i ∈ p, P i) : ∀ j, j ≤ p.length → ∀ i ∈ tk p skip j, P i
  | 0, _, i, hi => by cases hi
  | j + 1, hj, i, hi => by
    unfold tk at hi
    split at hi
    · exact tk_mem h j (by omega) i hi
    · rcases List.mem_append.1 hi with hi | hi
      · exact tk_mem h j (by omega) i hi
      · rw [List.mem_singleton] at hi
        rw [hi, List.getD_eq_getElem?_getD, List.getElem?_eq_getElem (show j < p.length by omega)]
        exact h _ (List.getElem_mem _)
theorem tk_full {p : List Nat} {skip : Int} (h : skip < 0) : ∀ j, j ≤ p.length → tk p skip j = p.take j
  | 0, _ => by simp [tk]
  | j + 1, hj => by
    unfold tk
    rw [if_neg (by omega), tk_full h j (by omega), List.take_succ_eq_append_getElem (show j < p.length by omega), List.getD_eq_getElem?_getD, List.getElem?_eq_getElem (show j < p.length by omega)]
    rfl
theorem tk_len {p : List Nat} {skip : Int} (h : 0 ≤ skip) : ∀ j, (tk p skip j).length + (if skip < (j : Int) then 1 else 0) = j
  | 0 => by rw [if_neg (by omega)]; rfl
  | j + 1 => by
    have ih := tk_len (p := p) h j
    unfold tk
    by_cases e : (j : Int) = skip
    · rw [if_pos e, if_pos (by omega)]
      rw [if_neg (by omega)] at ih
      omega
    · rw [if_neg e, List.length_append, List.length_singleton]
      by_cases e2 : skip < (j : Int)
      · rw [if_pos e2] at ih
        rw [if_pos (by omega)]
        omega
      · rw [if_neg e2] at ih
        rw [if_neg (by omega)]
        omega
section
variable {n : Nat} {d : List S54} {p : List Nat}
theorem cst_rd {j : Nat} (h : j < p.length) : rd (p.map (fun (i : Nat) => (i : Int))) (j : Int) = (p[j] : Int) := by
  unfold rd
  rw [Int.toNat_natCast, List.getD_eq_getElem?_getD, List.getElem?_map, List.getElem?_eq_getElem h]
  rfl
theorem con_l1 (hn : n ≤ 10) (hg : ∀ x ∈ d, GoodD (n : Int) x) (hl : d.length ≤ 64) (hpl : p.length ≤ 64) {a s : Int} (w : Q.Way (ed n d) a a p s) (hs : s < 0) (hmin : ∀ a' p' s', Q.Way (ed n d) a' a' p' s' → s' < 0 → p.length ≤ p'.length) {skip : Int} (h1 : -1 ≤ skip) (h2 : skip < p.length)
    (hk : Ev (fun k => l14_BoundsContradiction.l0 k (n : Int) d (p.map (fun (i : Nat) => (i : Int))) 0 (skip + 1)) true) : ∀ (e j : Nat), j + e = p.length →
    Ev (fun k => l14_BoundsContradiction.l1 k (n : Int) d (p.map (fun (i : Nat) => (i : Int))) 0 skip ((subD d (tk p skip j)).map o55) (j : Int)) true
  | 0, j, hj => by
    have hq : ∀ i ∈ p, i < d.length := fun i hi => by have := w.mem i hi; rwa [ed_len] at this
    have ej : j = p.length := by omega
    subst ej
    have hb : Ev (fun k => (bounds_Close.f k (n : Int) ((subD d (tk p skip p.length)).map o55)).bind fun bt724 => (if skip < 0 then (if bt724.2 = 14 then (if skip ≥ 0 then (if bt724.2 = 0 then (l14_BoundsContradiction.l0 k (n : Int) d (p.map (fun (i : Nat) => (i : Int))) 0 (wrap64 (skip + 1))) else (some false)) else (l14_BoundsContradiction.l0 k (n : Int) d (p.map (fun (i : Nat) => (i : Int))) 0 (wrap64 (skip + 1)))) else (some false)) else (if skip ≥ 0 then (if bt724.2 = 0 then (l14_BoundsContradiction.l0 k (n : Int) d (p.map (fun (i : Nat) => (i : Int))) 0 (wrap64 (skip + 1))) else (some false)) else (l14_BoundsContradiction.l0 k (n : Int) d (p.map (fun (i : Nat) => (i : Int))) 0 (wrap64 (skip + 1)))))) true := by
      refine Ev.bind (close_f (n : Int) _) ?_
      rw [wrapOk (skip + 1) (by omega) (by omega)]
      by_cases hsk : skip < 0
      · have hc : (closeS (n : Int) ((subD d (tk p skip p.length)).map o55)).2 = 14 := by
          rw [tk_full hsk p.length (Nat.le_refl _), List.take_length]
          exact close_all hn hg hl w hs hpl
        refine Ev.congr (fun k => by rw [if_pos hsk, if_pos hc, if_neg (show ¬ skip ≥ 0 by omega)]) hk
      · have hlen := tk_len (p := p) (show 0 ≤ skip by omega) p.length
        rw [if_pos (by omega)] at hlen
        have hc : (closeS (n : Int) ((subD d (tk p skip p.length)).map o55)).2 = 0 := close_less hn hg hl hpl (tk_mem hq p.length (Nat.le_refl _)) (by omega) hmin
        refine Ev.congr (fun k => by rw [if_neg hsk, if_pos (show skip ≥ 0 by omega), if_pos hc]) hk
    refine Ev.step (fun k => ?_) hb
    conv => lhs; unfold l14_BoundsContradiction.l1
    rw [if_neg (by rw [List.length_map]; omega), if_pos rfl]
  | e + 1, j, hj => by
    have hlt : j < p.length := by omega
    have hq : p[j] < d.length := by have := w.mem p[j] (List.getElem_mem hlt); rwa [ed_len] at this
    have ih := con_l1 hn hg hl hpl w hs hmin h1 h2 hk e (j + 1) (by omega)
    have h4 : Ev (fun k => l14_BoundsContradiction.j4 k (n : Int) d (p.map (fun (i : Nat) => (i : Int))) 0 skip ((subD d (tk p skip j)).map o55) (j : Int) false) true := by
      by_cases hsk : (j : Int) = skip
      · refine Ev.step (fun k => ?_) ih
        conv => lhs; unfold l14_BoundsContradiction.j4
        rw [if_neg (by simp), if_pos hsk, wrap_nat j (by omega)]
        rw [show tk p skip (j + 1) = tk p skip j from by rw [tk, if_pos hsk]]
      · have hlen : (tk p skip j).length ≤ j := by
          by_cases h0 : 0 ≤ skip
          · have := tk_len (p := p) h0 j
            omega
          · rw [tk_full (by omega) j (by omega), List.length_take]
            omega
        refine Ev.step (fun k => ?_) ih
        conv => lhs; unfold l14_BoundsContradiction.j4
        rw [if_neg (by simp), if_neg hsk, if_pos (by omega), if_pos (by rw [List.length_map]; omega), cst_rd hlt, if_pos (by omega), if_pos (by omega), if_pos (by unfold subD; rw [List.length_map, List.length_map]; omega), wrap_nat j (by omega), rd54 hq]
        rw [show tk p skip (j + 1) = tk p skip j ++ [p.getD j 0] from by rw [tk, if_neg hsk]]
        have e1 : p.getD j 0 = p[j] := by rw [List.getD_eq_getElem?_getD, List.getElem?_eq_getElem hlt]; rfl
        have e2 : d.getD p[j] z54 = d[p[j]] := by rw [List.getD_eq_getElem?_getD, List.getElem?_eq_getElem hq]; rfl
        unfold subD
        simp only [List.map_append, List.map_cons, List.map_nil, e1, e2]
        rfl
    refine Ev.step (fun k => ?_) h4
    conv => lhs; unfold l14_BoundsContradiction.l1
    rw [if_pos (by rw [List.length_map]; omega), if_pos (by omega), cst_rd hlt, if_neg (by omega), decide_eq_false (show ¬ (p[j] : Int) ≥ (d.length : Int) by omega)]
theorem con_l0 (hn : n ≤ 10) (hg : ∀ x ∈ d, GoodD (n : Int) x) (hl : d.length ≤ 64) (hpl : p.length ≤ 64) {a s : Int} (w : Q.Way (ed n d) a a p s) (hs : s < 0) (hmin : ∀ a' p' s', Q.Way (ed n d) a' a' p' s' → s' < 0 → p.length ≤ p'.length) : ∀ (e : Nat) (skip : Int), -1 ≤ skip → skip + e = p.length →
    Ev (fun k => l14_BoundsContradiction.l0 k (n : Int) d (p.map (fun (i : Nat) => (i : Int))) 0 skip) true
  | 0, skip, h1, h2 => by
    refine Ev.step (fun k => ?_) (Ev.bind (f := fun _ t => some t) lives_f (Ev.now _))
    conv => lhs; unfold l14_BoundsContradiction.l0
    rw [if_neg (by rw [List.length_map]; omega)]
  | e + 1, skip, h1, h2 => by
    refine Ev.step (fun k => ?_) (con_l1 hn hg hl hpl w hs hmin h1 (by omega) (con_l0 hn hg hl hpl w hs hmin e (skip + 1) (by omega) (by omega)) p.length 0 (by omega))
    conv => lhs; unfold l14_BoundsContradiction.l0
    rw [if_pos (by rw [List.length_map]; omega)]
    rfl
theorem con_none {c10 : Int} (h : c10 ≠ 0) : Ev (fun k => l14_BoundsContradiction.l0 k (n : Int) d [] c10 (-1)) true := by
  have h1 : Ev (fun k => l14_BoundsContradiction.l1 k (n : Int) d [] c10 (-1) [] 0) true := by
    refine Ev.step (fun k => ?_) (Ev.bind (f := fun _ t => some t) lives_f (Ev.now _))
    conv => lhs; unfold l14_BoundsContradiction.l1
    rw [if_neg (by simp), if_neg h]
  refine Ev.step (fun k => ?_) h1
  conv => lhs; unfold l14_BoundsContradiction.l0
  rw [if_pos (by simp)]
theorem con_j0 (hn : n ≤ 10) (hg : ∀ x ∈ d, GoodD (n : Int) x) (hl : d.length ≤ 64) {a1 : Int} (hI : I64 a1) {ks : List Int} {c10 : Int} (hk : Ev (fun k => l14_BoundsContradiction.l0 k (n : Int) d ks c10 (-1)) true) : Ev (fun k => l14_BoundsContradiction.j0 k a1 (n : Int) d (closeS (n : Int) (d.map o55)).1 (closeS (n : Int) (d.map o55)).2 ks c10 false) true := by
  have b0 := ar_nonneg a1 ((d.length : Int) + 1)
  have b1 := ar_lt a1 ((d.length : Int) + 1) (by omega)
  have hA := around_f (m := (d.length : Int) + 1) hI
  obtain ⟨t, ht⟩ := Int.eq_ofNat_of_zero_le b0
  rw [ht] at b0 b1 hA
  have hcl := closeS_len hn hl hg
  have hj1 : Ev (fun k => l14_BoundsContradiction.j1 k (n : Int) d ks c10 false) true := by
    refine Ev.step (fun k => ?_) hk
    rw [l14_BoundsContradiction.j1, if_neg (by simp)]
  have hb : Ev (fun k => (l14_own.f k (d.drop t ++ d.take t)).bind fun t704 => ((bounds_Close.f k (n : Int) t704).bind fun bt707 => (if bt707.2 = (closeS (n : Int) (d.map o55)).2 then ((r14_SameTables.f k bt707.1 (closeS (n : Int) (d.map o55)).1).bind fun t711 => (l14_BoundsContradiction.j1 k (n : Int) d ks c10 (!t711))) else (l14_BoundsContradiction.j1 k (n : Int) d ks c10 true)))) true := by
    refine Ev.bind (own_f _ (by simp; omega)) ?_
    refine Ev.bind (close_f (n : Int) _) ?_
    rw [closeS_turn hn hl hg t]
    refine Ev.congr (fun k => if_pos rfl) ?_
    refine Ev.bind (sameTabs_f _ hcl.1 hcl.2) ?_
    exact hj1
  refine Ev.step (fun k => ?_) hb
  rw [l14_BoundsContradiction.j0, if_neg (by simp), wrapOk ((d.length : Int) + 1) (by omega) (by omega), hA, Option.bind_some, if_pos b0, if_pos (by omega), Option.bind_some, Int.toNat_natCast, if_pos (by simp; omega), Option.bind_some, Option.bind_some, if_pos (by simp; omega), List.nil_append]
end
theorem BoundsContradiction : l14_BoundsContradiction.Pure := by
  intro l0 a1 _ _ h0 h1
  obtain ⟨n, d, hM, n1, n5, hdl, hg⟩ := made_g (l := l0) (fun x hx => wfI (h0 x hx))
  have hn : n ≤ 10 := by omega
  have hl : d.length ≤ 64 := by omega
  have hv := valid_of hn hl hg
  have hok := ed_ok hn hl hg
  have hno := ed_noloop hg
  have hc := closeS_good hn hl hg
  have hcy : ∃ ks c10, cycF (n : Int) (d.map o55) = (ks, c10) ∧ ((((closeS (n : Int) (d.map o55)).2 == 0) != (c10 == 6)) = false) ∧ ((((closeS (n : Int) (d.map o55)).2 == 14) != (c10 == 0)) = false) ∧ Ev (fun k => l14_BoundsContradiction.l0 k (n : Int) d ks c10 (-1)) true := by
    unfold cycF
    rw [if_pos hv, Int.toNat_natCast]
    have he : (d.map o55).map (edgeOf (n : Int)) = ed n d := rfl
    rw [he]
    cases hm : cycMany n (ed n d) n 2 with
    | none =>
      have := (cyc_none_iff hn hok hno).1 hm
      rw [this, if_neg (by simp)] at hc
      rw [hc]
      exact ⟨[], 6, rfl, rfl, rfl, con_none (by decide)⟩
    | some r =>
      obtain ⟨p, s, a, e1, e2, e3, w, hs, hmin⟩ := cyc_some hn hok hno hm
      have hneg := (neg_iff hn hok).2 ⟨a, p, s, w, hs⟩
      rw [if_pos hneg] at hc
      rw [hc]
      refine ⟨r, 0, rfl, rfl, rfl, ?_⟩
      rw [e1]
      exact con_l0 hn hg hl (by omega) w hs hmin (p.length + 1) (-1) (by omega) (by omega)
  obtain ⟨ks, c10, hcf, hf1, hf2, hk⟩ := hcy
  have hj := con_j0 hn hg hl (wfI h1) hk
  refine Ev.rounds ?_
  unfold l14_BoundsContradiction.f
  refine Ev.bind hM ?_
  refine Ev.bind (own_f d (by omega)) ?_
  refine Ev.bind (close_f (n : Int) (d.map o55)) ?_
  refine Ev.bind (own_f d (by omega)) ?_
  refine Ev.bind (g := fun _ => bounds_Cycle.f (n : Int) (d.map o55)) (a := cycF (n : Int) (d.map o55)) (Ev.now _) ?_
  rw [hcf]
  simp only [hf1, hf2]
  refine Ev.congr (fun k => if_neg (by simp)) ?_
  exact hj
end Go.Proofs.Ytcnkjcbjlopkmaa.Pure
