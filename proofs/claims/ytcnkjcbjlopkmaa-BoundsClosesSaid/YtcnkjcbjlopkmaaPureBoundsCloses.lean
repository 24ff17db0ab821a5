/- For all differences, also contradictory ones, with one or two things changed, and numbers of values, Close and Cycle return the table, the list and the errors of the reference model. No condition. -/
import Derived.Test.YtcnkjcbjlopkmaaQ13
import Derived.Test.YtcnkjcbjlopkmaaSam
import Derived.Test.YtcnkjcbjlopkmaaRcl
import Derived.Test.YtcnkjcbjlopkmaaMad
import Derived.DataShut
namespace Go.Proofs.Ytcnkjcbjlopkmaa.Pure
open Go.RowKit Go.Proofs.Ytcnkjcbjlopkmaa.Q Go.Proofs.YtcnkjcbjlopkmaaW.PrintWords Go.Proofs.YtcnkjcbjlopkmaaW.PrintLast Go.Proofs.YtcnkjcbjlopkmaaW.PrintMore
set_option linter.unusedVariables false
set_option linter.unusedSimpArgs false

theorem wfI {x : Int} (h : (Lit.int .i64 x).wf = true) : I64 x := by
 rw [Lit.wf_int_iff] at h
 exact ⟨h.1, h.2⟩
theorem rdL7 {c : List (List S54)} {i : Nat} (h : i < c.length) : rd_L7 c (i : Int) = c[i] := by simp [rd_L7, List.getD_eq_getElem?_getD, h]
theorem goOn_len (n : Nat) (es : List S78) (tgt : Int) (frm : Nat) : ∀ (s : Nat) (at_ sum : Int) (out : List Int), (goOn n es tgt frm s at_ sum out).length ≤ out.length + s
 | 0, _, _, out => by simp [goOn]
 | s + 1, at_, sum, out => by
  unfold goOn
  split
  · have := goOn_len n es tgt frm s at_ sum out; omega
  · rename_i i x _
    have := goOn_len n es tgt frm s x.f1 (sum + x.f2) (out ++ [(i : Int)])
    simp only [List.length_append, List.length_singleton] at this
    omega
theorem cycFirst_len (n : Nat) (l : List S78) (many : Nat) : ∀ d first r, cycFirst n l many d first = some r → r.length ≤ many + 1
 | 0, _, r, h => by simp [cycFirst] at h
 | d + 1, first, r, h => by
  unfold cycFirst at h
  split at h
  · rename_i r' h'
    injection h with h
    subst h
    unfold cycleS at h'
    simp only at h'
    split at h'
    · injection h' with h'
      rw [← h']
      have := goOn_len n (l.drop (first + 1)) (l.getD first z78).f0 (first + 1) (many - 1) (l.getD first z78).f1 (l.getD first z78).f2 [(first : Int)]
      simp only [List.length_singleton] at this
      omega
    · cases h'
  · exact cycFirst_len n l many d (first + 1) r h
theorem cycMany_len (n : Nat) (l : List S78) : ∀ d many r, cycMany n l d many = some r → r.length ≤ many + d + 1
 | 0, _, r, h => by simp [cycMany] at h
 | d + 1, many, r, h => by
  unfold cycMany at h
  split at h
  · rename_i r' h'
    injection h with h
    subst h
    have := cycFirst_len n l many _ _ _ h'
    omega
  · have := cycMany_len n l d (many + 1) r h
    omega
/-- What Cycle returns. -/
def cycF (n : Int) (l : List S55) : List Int × Int := if validS n l = 0 then (match cycMany n.toNat (l.map (edgeOf n)) n.toNat 2 with | some r => (r, 0) | none => ([], 6)) else ([], validS n l)
theorem cycF_len (n : Int) (l : List S55) : (cycF n l).1.length ≤ 100 := by
 unfold cycF
 by_cases hv : validS n l = 0
 · rw [if_pos hv]
   obtain ⟨n0, n1, -, -⟩ := validS_ok hv
   split
   · rename_i r hr
     have := cycMany_len _ _ _ _ _ hr
     show r.length ≤ 100
     omega
   · simp
 · rw [if_neg hv]; simp
theorem tabOf_rows (N : Nat) (S : Tb) : (tabOf N S).length = N ∧ ∀ x ∈ tabOf N S, x.length = N := by
 refine ⟨tabOf_len N S, fun x hx => ?_⟩
 unfold tabOf at hx
 obtain ⟨a, -, rfl⟩ := List.mem_map.1 hx
 exact rowL_len _ _
theorem closeS_len (n : Int) (l : List S55) : (closeS n l).1.length ≤ 1000 ∧ ∀ x ∈ (closeS n l).1, x.length ≤ 1000 := by
 unfold closeS
 by_cases hv : validS n l = 0
 · obtain ⟨n0, n1, -, -⟩ := validS_ok hv
   rw [if_pos hv]
   split
   · exact ⟨by simp, fun x hx => by simp at hx⟩
   · obtain ⟨h1, h2⟩ := tabOf_rows (n.toNat + 1) (run (n.toNat + 1) (T1 (l.map (edgeOf n))) (n.toNat + 1))
     exact ⟨by show (tabOf _ _).length ≤ _; omega, fun x hx => by have := h2 x hx; omega⟩
 · rw [if_neg hv]
   exact ⟨by simp, fun x hx => by simp at hx⟩
section
variable {ds : List (List S54)} {cs : List Int}
theorem closes_l1 (hd : ∀ x ∈ ds, x.length ≤ 71) (hc : cs.length = 3) {i : Nat} (hi : i < ds.length) (hk : Ev (fun k => l14_BoundsCloses.l0 k ds cs ((i + 1 : Nat) : Int)) true) (hs : ds.length ≤ 4) : ∀ (d j : Nat), j + d = 3 → Ev (fun k => l14_BoundsCloses.l1 k ds cs (i : Int) (j : Int)) true
 | 0, j, hj => by
  refine Ev.step (fun k => ?_) hk
  conv => lhs; unfold l14_BoundsCloses.l1
  rw [if_neg (by omega), wrap_nat i (by omega)]
 | d + 1, j, hj => by
  have ih := closes_l1 hd hc hi hk hs d (j + 1) (by omega)
  have hL := hd _ (List.getElem_mem hi)
  have hrd := rdL7 hi
  obtain ⟨L, hLe⟩ : ∃ L, ds[i] = L := ⟨_, rfl⟩
  rw [hLe] at hL hrd
  obtain ⟨n, hn⟩ : ∃ n, rd cs (j : Int) = n := ⟨_, rfl⟩
  have hcl := closeS_len n (L.map o55)
  have hcy := cycF_len n (L.map o55)
  have hb : Ev (fun k => (l14_own.f k L).bind fun t430 => ((bounds_Close.f k n t430).bind fun bt433 => ((r14_Close.f k n L).bind fun bt439 => ((l14_own.f k L).bind fun t445 => ((bounds_Cycle.f n t445).bind fun bt448 => ((r14_Cycle.f k n L).bind fun bt454 => (if bt433.2 = bt439.2 then (if bt448.2 = bt454.2 then ((r14_SameTables.f k bt433.1 bt439.1).bind fun t458 => (if t458 = true then ((r01_SameInts.f k bt448.1 bt454.1).bind fun t459 => (if t459 = true then (l14_BoundsCloses.l1 k ds cs (i : Int) ((j + 1 : Nat) : Int)) else (some false))) else (some false))) else (some false)) else (some false)))))))) true := by
   refine Ev.bind (own_f L (by omega)) ?_
   refine Ev.bind (close_f n (L.map o55)) ?_
   refine Ev.bind (refClose_f n L) ?_
   refine Ev.bind (own_f L (by omega)) ?_
   refine Ev.bind (g := fun _ => bounds_Cycle.f n (L.map o55)) (a := cycF n (L.map o55)) (Ev.now _) ?_
   refine Ev.bind (g := fun k => r14_Cycle.f k n L) (a := cycF n (L.map o55)) (Ev.now _) ?_
   refine Ev.congr (fun k => by rw [if_pos rfl, if_pos rfl]) ?_
   refine Ev.bind (sameTabs_f _ hcl.1 hcl.2) ?_
   refine Ev.congr (fun k => if_pos rfl) ?_
   refine Ev.bind (sameInts_f _ (by omega)) ?_
   refine Ev.congr (fun k => if_pos rfl) ?_
   exact ih
  refine Ev.step (fun k => ?_) hb
  conv => lhs; unfold l14_BoundsCloses.l1
  rw [hrd, hn, if_pos (by omega), if_pos (by omega), if_pos (by omega), if_pos (by omega), if_pos (by omega), wrap_nat j (by omega)]
theorem closes_l0 (hd : ∀ x ∈ ds, x.length ≤ 71) (hc : cs.length = 3) (hs : ds.length ≤ 4) : ∀ (d i : Nat), i + d = ds.length → Ev (fun k => l14_BoundsCloses.l0 k ds cs (i : Int)) true
 | 0, i, hi => by
  refine Ev.step (fun k => ?_) (Ev.bind (f := fun _ t => some t) lives_f (Ev.now _))
  conv => lhs; unfold l14_BoundsCloses.l0
  rw [if_neg (by omega)]
 | d + 1, i, hi => by
  have hlt : i < ds.length := by omega
  refine Ev.step (fun k => ?_) (closes_l1 hd hc hlt (closes_l0 hd hc hs d (i + 1) (by omega)) hs 3 0 (by omega))
  conv => lhs; unfold l14_BoundsCloses.l0
  rw [if_pos (by omega)]
  rfl
end
theorem tdiv_I {x : Int} (h : I64 x) : I64 (wrap64 (Int.tdiv x 6)) := wrap64_I _
theorem BoundsCloses : l14_BoundsCloses.Pure := by
 intro l0 a1 a2 a3 a4 _ _ h0 h1 h2 h3 h4
 obtain ⟨n, d, hM, n1, n5, hdl⟩ := made_f (l := l0) (fun x hx => wfI (h0 x hx))
 obtain ⟨t, hB, htl⟩ := bent_m d 70 (by omega) (by omega) (by omega) (by omega) (wfI h1) (wfI h2) (wfI h3)
 obtain ⟨u, hU, hul⟩ := bent_f t htl (wfI h3) (tdiv_I (wfI h2)) (wfI h1)
 have hA := around_f (m := 13) (wfI h4)
 have hl := closes_l0 (ds := [d, t, u, []]) (cs := [(n : Int), wrap64 (ar a4 13 - 1), a4]) (fun x hx => by simp at hx; rcases hx with rfl | rfl | rfl | rfl <;> first | omega | simp) rfl (by simp) 4 0 rfl
 refine Ev.rounds ?_
 unfold l14_BoundsCloses.f
 refine Ev.bind hM ?_
 refine Ev.bind hB ?_
 refine Ev.bind hU ?_
 refine Ev.bind (g := fun _ => r01_Around.f a4 13) (a := ar a4 13) (Ev.congr (fun _ => hA) (Ev.now _)) ?_
 exact hl
end Go.Proofs.Ytcnkjcbjlopkmaa.Pure
