/- For all differences, what Fill returns keeps all of them; and values that keep them, here ones that are chosen from the last one to the first one, are within Range one after the other, and are returned by Fill for the picks that lead to them. No condition. -/
import Derived.Test.YtcnkjcbjlopkmaaQ18
import Derived.Test.YtcnkjcbjlopkmaaSam
import Derived.Test.YtcnkjcbjlopkmaaFlm
import Derived.Test.YtcnkjcbjlopkmaaSml
import Derived.DataShut
namespace Go.Proofs.Ytcnkjcbjlopkmaa.Pure
open Go.RowKit Go.Proofs.Ytcnkjcbjlopkmaa.Q Go.Proofs.YtcnkjcbjlopkmaaW.PrintWords Go.Proofs.YtcnkjcbjlopkmaaW.PrintLast Go.Proofs.YtcnkjcbjlopkmaaW.PrintMore
set_option linter.unusedVariables false
set_option linter.unusedSimpArgs false

theorem wfI {x : Int} (h : (Lit.int .i64 x).wf = true) : I64 x := by
  rw [Lit.wf_int_iff] at h
  exact ⟨h.1, h.2⟩
theorem keep_nil {n : Nat} {R : Tb} (hd : ∀ a, a < n + 1 → R a a = 0) : Keep n R [] := by
  intro a b ha hb hf
  have ea : a = n := by unfold Stand at ha; simp at ha; exact ha
  have eb : b = n := by unfold Stand at hb; simp at hb; exact hb
  subst ea eb
  rw [hd _ (by omega)]
  omega
theorem small_nil : Small [] := fun i hi => by simp at hi
section
variable {n : Nat} {d : List S54}
/-- What Fill returns of good differences. -/
theorem fill_good (hn : n ≤ 5) (hl : d.length ≤ 64) (hg : ∀ x ∈ d, GoodD (n : Int) x) (picks : List Int) :
    ∃ q, Ev (fun k => bounds_Fill.f k (n : Int) (d.map o55) picks) q ∧
      ((q = ([], 14) ∧ negB (n + 1) (R_ n (ed n d)) = true) ∨ (negB (n + 1) (R_ n (ed n d)) = false ∧ ((q = ([], 5) ∧ AnyFree n (R_ n (ed n d)) 0) ∨ (q.2 = 0 ∧ q.1.length = n ∧ Keep n (R_ n (ed n d)) q.1 ∧ Small q.1 ∧ ¬ AnyFree n (R_ n (ed n d)) 0)))) := by
  have hc := closeS_good (show n ≤ 10 by omega) hl hg
  cases hneg : negB (n + 1) (R_ n (ed n d)) with
  | true =>
    rw [hneg, if_pos rfl] at hc
    refine ⟨([], 14), ?_, .inl ⟨rfl, rfl⟩⟩
    unfold bounds_Fill.f
    refine Ev.bind (close_f (n : Int) (d.map o55)) ?_
    rw [hc]
    exact Ev.congr (fun k => if_neg (by simp)) (Ev.now _)
  | false =>
    rw [hneg, if_neg (by simp)] at hc
    have hok := ed_ok (show n ≤ 10 by omega) hl hg
    have hd : ∀ a, a < n + 1 → R_ n (ed n d) a a = 0 := fun a ha => R_diag (by omega) hok hneg ha
    obtain ⟨q, hq, hq2⟩ := fill_run (show n ≤ 10 by omega) (R_small hn hg) (R_clsd (by omega) hok hneg) hd picks n [] (by simp) (keep_nil hd) small_nil
    refine ⟨q, ?_, .inr ⟨rfl, hq2⟩⟩
    unfold bounds_Fill.f
    refine Ev.bind (close_f (n : Int) (d.map o55)) ?_
    rw [hc]
    exact Ev.congr (fun k => if_pos rfl) hq
/-- The picks that lead to values. -/
def chs (c : List (List Int)) (u : List Int) (k : Nat) : List Int := (List.range k).map fun j => wrap64 (u.getD j 0 - (rangeS c (u.take j)).1)
theorem chs_len (c : List (List Int)) (u : List Int) (k : Nat) : (chs c u k).length = k := by simp [chs]
theorem chs_succ (c : List (List Int)) (u : List Int) (k : Nat) : chs c u (k + 1) = chs c u k ++ [wrap64 (u.getD k 0 - (rangeS c (u.take k)).1)] := by simp [chs, List.range_succ]
theorem chs_rd (c : List (List Int)) (u : List Int) {k j : Nat} (h : j < k) : rd (chs c u k) (j : Int) = wrap64 (u.getD j 0 - (rangeS c (u.take j)).1) := by
  unfold rd chs
  rw [Int.toNat_natCast, List.getD_eq_getElem?_getD, List.getElem?_map, List.getElem?_range h]
  rfl
theorem small_bd {u : List Int} (hs : Small u) (hl : u.length ≤ 10) : ∀ i, i < u.length → -64000 ≤ u.getD i 0 ∧ u.getD i 0 ≤ 64000 := by
  intro i hi
  have := hs i hi
  have : (i : Int) + 1 ≤ 10 := by omega
  omega
theorem filled_end (hn : n ≤ 5) (hl : d.length ≤ 64) (hg : ∀ x ∈ d, GoodD (n : Int) x) (hneg : negB (n + 1) (R_ n (ed n d)) = false) (hfree : ¬ AnyFree n (R_ n (ed n d)) 0) {u t : List Int} {T : List (List Int)} (hu : u.length = n) (hK : Keep n (R_ n (ed n d)) u) (hs : Small u) :
    Ev (fun k => l14_BoundsFilled.l1 k (n : Int) d t T u (chs (tabOf (n + 1) (R_ n (ed n d))) u n) (n : Int)) true := by
  have hok := ed_ok (show n ≤ 10 by omega) hl hg
  have hc := closeS_good (show n ≤ 10 by omega) hl hg
  rw [hneg, if_neg (by simp)] at hc
  have hfb := fill_back (show n ≤ 10 by omega) (R_small hn hg) (R_clsd (by omega) hok hneg) hu hK hs hfree (picks := chs (tabOf (n + 1) (R_ n (ed n d))) u n) (chs_len _ _ _) (fun k hk => by
    rw [chs_rd _ _ hk]
    obtain ⟨lo, hi, hr, h1, h2, h3, h4⟩ := range_at (show n ≤ 10 by omega) (R_small hn hg) (R_clsd (by omega) hok hneg) hu hK hs hfree hk
    rw [hr]
    simp only
    exact wrapOk _ (by omega) (by omega)) n 0 (by omega)
  have hh := holds_keep hg hu (by decide) (by decide) (small_bd hs (by omega)) (hK.edges (by omega) hok hu)
  have hb : Ev (fun k => (l14_own.f k d).bind fun t658 => ((bounds_Fill.f k (n : Int) t658 (chs (tabOf (n + 1) (R_ n (ed n d))) u n)).bind fun bt661 => (if bt661.2 = 0 then ((r01_SameInts.f k bt661.1 u).bind fun t665 => (if t665 = true then ((l14_own.f k d).bind fun t666 => ((bounds_Holds.f t666 u).bind fun t669 => (if t669 = (-1) then ((l14_lives.f k).bind fun t670 => (some t670)) else (some false)))) else (some false))) else (some false)))) true := by
    refine Ev.bind (own_f d (by omega)) ?_
    have hF : Ev (fun k => bounds_Fill.f k (n : Int) (d.map o55) (chs (tabOf (n + 1) (R_ n (ed n d))) u n)) (u, 0) := by
      unfold bounds_Fill.f
      refine Ev.bind (close_f (n : Int) (d.map o55)) ?_
      rw [hc]
      exact Ev.congr (fun k => if_pos rfl) hfb
    refine Ev.bind hF ?_
    refine Ev.congr (fun k => if_pos rfl) ?_
    refine Ev.bind (sameInts_f u (by omega)) ?_
    refine Ev.congr (fun k => if_pos rfl) ?_
    refine Ev.bind (own_f d (by omega)) ?_
    refine Ev.bind (g := fun _ => bounds_Holds.f (d.map o55) u) (a := -1) (Ev.congr (fun _ => by unfold bounds_Holds.f; rw [hh]) (Ev.now _)) ?_
    refine Ev.congr (fun k => if_pos rfl) ?_
    exact Ev.bind (f := fun _ t => some t) lives_f (Ev.now _)
  refine Ev.step (fun k => ?_) hb
  rw [l14_BoundsFilled.l1, if_neg (by omega)]
theorem filled_l1 (hn : n ≤ 5) (hl : d.length ≤ 64) (hg : ∀ x ∈ d, GoodD (n : Int) x) (hneg : negB (n + 1) (R_ n (ed n d)) = false) (hfree : ¬ AnyFree n (R_ n (ed n d)) 0) {t : List Int} (ht : t.length = n) (hK : Keep n (R_ n (ed n d)) t.reverse) (hs : Small t.reverse) : ∀ (e k : Nat), k + e = n →
    Ev (fun f => l14_BoundsFilled.l1 f (n : Int) d t (tabOf (n + 1) (R_ n (ed n d))) (t.reverse.take k) (chs (tabOf (n + 1) (R_ n (ed n d))) t.reverse k) (k : Int)) true
  | 0, k, he => by
    have e1 : k = n := by omega
    subst e1
    have hr : t.reverse.length = k := by rw [List.length_reverse]; exact ht
    rw [List.take_of_length_le (by omega)]
    exact filled_end hn hl hg hneg hfree hr hK hs
  | e + 1, k, he => by
    have hk : k < n := by omega
    have hr : t.reverse.length = n := by rw [List.length_reverse]; exact ht
    have hok := ed_ok (show n ≤ 10 by omega) hl hg
    have ih := filled_l1 hn hl hg hneg hfree ht hK hs e (k + 1) (by omega)
    obtain ⟨lo, hi, hrg, h1, h2, h3, h4⟩ := range_at (show n ≤ 10 by omega) (R_small hn hg) (R_clsd (by omega) hok hneg) hr hK hs hfree hk
    have hv : rd t ((n : Int) - 1 - (k : Int)) = t.reverse.getD k 0 := by
      unfold rd
      rw [List.getD_eq_getElem?_getD, List.getD_eq_getElem?_getD, List.getElem?_reverse (by omega)]
      congr 2
      omega
    have ew : wrap64 (wrap64 ((n : Int) - 1) - (k : Int)) = (n : Int) - 1 - (k : Int) := by rw [wrapOk ((n : Int) - 1) (by omega) (by omega), wrapOk _ (by omega) (by omega)]
    have e2 : t.reverse.take k ++ [t.reverse.getD k 0] = t.reverse.take (k + 1) := by
      rw [List.take_succ_eq_append_getElem (show k < t.reverse.length by omega), List.getD_eq_getElem?_getD, List.getElem?_eq_getElem (show k < t.reverse.length by omega)]
      rfl
    have hrf : bounds_Range.f (tabOf (n + 1) (R_ n (ed n d))) (t.reverse.take k) = some (lo, hi, 0) := by unfold bounds_Range.f; rw [hrg]
    refine Ev.step (fun f => ?_) ih
    rw [l14_BoundsFilled.l1, if_pos (by omega), ew, if_pos (by omega), if_pos (by omega), hrf, Option.bind_some, if_pos rfl, hv, if_neg (show ¬ t.reverse.getD k 0 < lo by omega), if_neg (show ¬ t.reverse.getD k 0 > hi by omega), if_pos (by rw [chs_len]; omega), if_pos (by rw [List.length_take]; omega), wrap_nat k (by omega), chs_succ, hrg, e2]
/-- The turned differences. -/
theorem filled_l0 (hn : n ≤ 5) (hl : d.length ≤ 64) (hg : ∀ x ∈ d, GoodD (n : Int) x) {picks : List Int}
    (h : Ev (fun f => l14_BoundsFilled.l0 f picks (n : Int) d ((d.map (tuD n)).map o55) (d.length : Int)) true) : ∀ (e i : Nat), i + e = d.length →
    Ev (fun f => l14_BoundsFilled.l0 f picks (n : Int) d (((d.take i).map (tuD n)).map o55) (i : Int)) true
  | 0, i, hi => by
    rw [List.take_of_length_le (by omega), show i = d.length by omega]
    exact h
  | e + 1, i, hi => by
    have hlt : i < d.length := by omega
    have ih := filled_l0 hn hl hg h e (i + 1) (by omega)
    have hx := hg _ (List.getElem_mem hlt)
    have e1 : (((d.take (i + 1)).map (tuD n)).map o55) = (((d.take i).map (tuD n)).map o55) ++ [o55 (tuD n d[i])] := by
      rw [List.take_succ_eq_append_getElem hlt, List.map_append, List.map_append]
      rfl
    rw [e1] at ih
    have hlen : (((d.take i).map (tuD n)).map o55).length < 5864062014805 := by rw [List.length_map, List.length_map, List.length_take]; omega
    have hrd := rd54 hlt
    generalize ((d.take i).map (tuD n)).map o55 = acc at hlen ih ⊢
    refine Ev.step (fun f => ?_) ih
    rw [l14_BoundsFilled.l0, if_pos (by omega), if_pos (by omega), hrd, wrap_nat i (by omega)]
    generalize d[i] = x at hx ⊢
    obtain ⟨h1, h2, h3, h4, -, -, -⟩ := hx
    have en : wrap64 ((n : Int) - 1) = (n : Int) - 1 := wrapOk _ (by omega) (by omega)
    rw [en]
    unfold o55 tuD tu
    simp only
    by_cases a : x.f0 ≥ 0
    · rw [if_pos a, if_pos a, wrapOk ((n : Int) - 1 - x.f0) (by omega) (by omega)]
      by_cases b : x.f1 ≥ 0
      · rw [if_pos b, if_pos b, if_pos hlen, wrapOk ((n : Int) - 1 - x.f1) (by omega) (by omega)]
      · rw [if_neg b, if_neg b, if_pos hlen]
    · rw [if_neg a, if_neg a]
      by_cases b : x.f1 ≥ 0
      · rw [if_pos b, if_pos b, if_pos hlen, wrapOk ((n : Int) - 1 - x.f1) (by omega) (by omega)]
      · rw [if_neg b, if_neg b, if_pos hlen]
theorem keep_small {R : Tb} (hb : Bnd (n + 1) 6400 R) {u : List Int} (hu : u.length = n) (hK : Keep n R u) (hfree : ¬ AnyFree n R 0) : ∀ m i, i < m → i < n → -(6400 * ((i : Int) + 1)) ≤ u.getD i 0 ∧ u.getD i 0 ≤ 6400 * ((i : Int) + 1)
  | 0, i, h, _ => by omega
  | m + 1, i, h, hi => by
    have hva : ∀ a, Stand n i a → -(6400 * (i : Int)) ≤ u.getD a 0 ∧ u.getD a 0 ≤ 6400 * (i : Int) := by
      intro a ha
      by_cases hai : a < i
      · have := keep_small hb hu hK hfree m a (by omega) (by omega)
        have h1 : (a : Int) + 1 ≤ (i : Int) := by omega
        omega
      · have : a = n := by unfold Stand at ha; omega
        rw [List.getD_eq_getElem?_getD, List.getElem?_eq_none (by omega)]
        simp only [Option.getD_none]
        omega
    have si : Stand n u.length i := .inl (by omega)
    have sa : ∀ a, Stand n i a → Stand n u.length a := fun a ha => by unfold Stand at ha ⊢; omega
    have sl : ∀ a, Stand n i a → a < n + 1 := fun a ha => by unfold Stand at ha; omega
    refine ⟨?_, ?_⟩
    · refine Decidable.byContradiction fun hx => hfree ⟨i, Nat.zero_le _, hi, .inl fun a ha hf => hx ?_⟩
      have h1 := hK a i (sa a ha) si hf
      have h2 := hva a ha
      have h3 := (hb a i (sl a ha) (by omega)).2.2 hf
      omega
    · refine Decidable.byContradiction fun hx => hfree ⟨i, Nat.zero_le _, hi, .inr fun a ha hf => hx ?_⟩
      have h1 := hK i a si (sa a ha) hf
      have h2 := hva a ha
      have h3 := (hb i a (by omega) (sl a ha)).2.2 hf
      omega
theorem filled_j0 (hn : n ≤ 5) (hl : d.length ≤ 64) (hg : ∀ x ∈ d, GoodD (n : Int) x) (hneg : negB (n + 1) (R_ n (ed n d)) = false) (hfree : ¬ AnyFree n (R_ n (ed n d)) 0) (picks : List Int) :
    Ev (fun f => l14_BoundsFilled.j0 f picks (n : Int) d false) true := by
  have hok := ed_ok (show n ≤ 10 by omega) hl hg
  have hc := closeS_good (show n ≤ 10 by omega) hl hg
  rw [hneg, if_neg (by simp)] at hc
  have hta := tu_all hg
  have hlt : (d.map (tuD n)).length ≤ 64 := by rw [List.length_map]; exact hl
  obtain ⟨q, hq, hq2⟩ := fill_good hn hlt hta picks
  rw [tu_neg (by omega) hl hg, hneg] at hq2
  have hend : Ev (fun f => l14_BoundsFilled.l0 f picks (n : Int) d ((d.map (tuD n)).map o55) (d.length : Int)) true := by
    have hb : Ev (fun k => (bounds_Fill.f k (n : Int) ((d.map (tuD n)).map o55) picks).bind fun bt636 => ((l14_own.f k d).bind fun t640 => ((bounds_Close.f k (n : Int) t640).bind fun bt643 => (if bt636.2 = 0 then (if bt643.2 = 0 then (l14_BoundsFilled.j2 k (n : Int) d bt636.1 bt643.1 ((bt636.1.length : Int) != (n : Int))) else (l14_BoundsFilled.j2 k (n : Int) d bt636.1 bt643.1 true)) else (if bt636.2 = 5 then ((l14_lives.f k).bind fun t647 => (some t647)) else (some false)))))) true := by
      refine Ev.bind hq ?_
      refine Ev.bind (own_f d (by omega)) ?_
      refine Ev.bind (close_f (n : Int) (d.map o55)) ?_
      rw [hc]
      rcases hq2 with ⟨-, h⟩ | ⟨-, ⟨rfl, -⟩ | ⟨h0, h1, h2, h3, -⟩⟩
      · cases h
      · refine Ev.congr (fun k => by rw [if_neg (show ¬ (5 : Int) = 0 by decide), if_pos rfl]) ?_
        exact Ev.bind (f := fun _ t => some t) lives_f (Ev.now _)
      · have hK := rev_keep (show n ≤ 10 by omega) hl hg h1 h2
        have hr : q.1.reverse.length = n := by rw [List.length_reverse]; exact h1
        have hs : Small q.1.reverse := fun i hi => keep_small (R_small hn hg) hr hK hfree (i + 1) i (by omega) (by omega)
        have hl1 := filled_l1 hn hl hg hneg hfree h1 hK hs n 0 (by omega)
        have hj2 : Ev (fun k => l14_BoundsFilled.j2 k (n : Int) d q.1 (tabOf (n + 1) (R_ n (ed n d))) false) true := by
          refine Ev.step (fun k => ?_) hl1
          rw [l14_BoundsFilled.j2, if_neg (by simp)]
          rfl
        refine Ev.congr (fun k => ?_) hj2
        rw [if_pos h0, if_pos rfl, h1]
        rw [show (((n : Nat) : Int) != (n : Int)) = false from by simp]
    refine Ev.step (fun k => ?_) hb
    rw [l14_BoundsFilled.l0, if_neg (by omega)]
  have h0 := filled_l0 hn hl hg hend d.length 0 (by omega)
  refine Ev.step (fun k => ?_) h0
  rw [l14_BoundsFilled.j0, if_neg (by simp)]
  rfl
end
theorem BoundsFilled : l14_BoundsFilled.Pure := by
  intro l0 l1 _ _ h0 _ _ _
  obtain ⟨n, d, hM, n1, n5, hdl, hg⟩ := made_g (l := l0) (fun x hx => wfI (h0 x hx))
  have hl : d.length ≤ 64 := by omega
  have hok := ed_ok (show n ≤ 10 by omega) hl hg
  obtain ⟨q, hq, hq2⟩ := fill_good n5 hl hg l1
  refine Ev.rounds ?_
  unfold l14_BoundsFilled.f
  refine Ev.bind hM ?_
  refine Ev.bind (own_f d (by omega)) ?_
  refine Ev.bind hq ?_
  rcases hq2 with ⟨rfl, -⟩ | ⟨hneg, ⟨rfl, -⟩ | ⟨e0, e1, e2, e3, hfree⟩⟩
  · refine Ev.congr (fun k => by rw [if_neg (show ¬ (14 : Int) = 0 by decide), if_pos rfl]) ?_
    exact Ev.bind (f := fun _ t => some t) lives_f (Ev.now _)
  · refine Ev.congr (fun k => by rw [if_neg (show ¬ (5 : Int) = 0 by decide), if_neg (show ¬ (5 : Int) = 14 by decide), if_pos rfl]) ?_
    exact Ev.bind (f := fun _ t => some t) lives_f (Ev.now _)
  · refine Ev.congr (fun k => by rw [if_pos e0, if_pos (show (q.1.length : Int) = (n : Int) by omega)]) ?_
    refine Ev.bind (own_f d (by omega)) ?_
    have hh := holds_keep hg e1 (by decide) (by decide) (small_bd e3 (by omega)) (e2.edges (by omega) hok e1)
    refine Ev.bind (g := fun _ => bounds_Holds.f (d.map o55) q.1) (a := -1) (Ev.congr (fun _ => by unfold bounds_Holds.f; rw [hh]) (Ev.now _)) ?_
    rw [show ((-1 : Int) != -1) = false from rfl]
    exact filled_j0 n5 hl hg hneg hfree l1
end Go.Proofs.Ytcnkjcbjlopkmaa.Pure
