/- For all differences, also with something changed, and picks, also too few ones, Fill returns the values and the error of the reference model, and Holds, for these values and any from -Free to Free, what it does. No condition. -/
import Derived.Test.YtcnkjcbjlopkmaaQ17
import Derived.Test.YtcnkjcbjlopkmaaFil
import Derived.Test.YtcnkjcbjlopkmaaMad
import Derived.DataShut
namespace Go.Proofs.Ytcnkjcbjlopkmaa.Pure
open Go.RowKit Go.Proofs.Ytcnkjcbjlopkmaa.Q Go.Proofs.YtcnkjcbjlopkmaaW.PrintWords Go.Proofs.YtcnkjcbjlopkmaaW.PrintLast Go.Proofs.YtcnkjcbjlopkmaaW.PrintMore
set_option linter.unusedVariables false
set_option linter.unusedSimpArgs false

theorem wfI {x : Int} (h : (Lit.int .i64 x).wf = true) : I64 x := by
 rw [Lit.wf_int_iff] at h
 exact ⟨h.1, h.2⟩
theorem rdL7 {c : List (List S54)} {i : Nat} (h : i < c.length) : rd_L7 c (i : Int) = c[i] := by simp [rd_L7, List.getD_eq_getElem?_getD, h]
theorem fills_l1 (picks few : List Int) (n : Int) (ds : List (List S54)) (h2 : ds.length = 2) (hd : ∀ x ∈ ds, x.length ≤ 71) : ∀ (d i : Nat), i + d = 2 → Ev (fun k => l14_BoundsFills.l1 k picks n ds few (i : Int)) true
 | 0, i, hi => by
  have hb : Ev (fun k => (l14_lives.f k).bind fun t => some t) true := Ev.bind lives_f (Ev.now _)
  refine Ev.step (fun k => ?_) hb
  conv => lhs; unfold l14_BoundsFills.l1
  rw [if_neg (by omega)]
 | d + 1, i, hi => by
  have hlt : i < ds.length := by omega
  have ih := fills_l1 picks few n ds h2 hd d (i + 1) (by omega)
  have hL := hd _ (List.getElem_mem hlt)
  obtain ⟨L, hLe⟩ : ∃ L, ds[i] = L := ⟨_, rfl⟩
  have hrd := rdL7 hlt
  rw [hLe] at hL hrd
  have hf := fill_f n L picks
  have hlen := fillF_len n (L.map o55) picks
  have hj2 : Ev (fun k => l14_BoundsFills.j2 k picks n ds few (i : Int) (fillF n (L.map o55) picks).1 false) true := by
   have hb : Ev (fun k => (l14_own.f k L).bind fun t590 => ((bounds_Holds.f t590 (fillF n (L.map o55) picks).1).bind fun t593 => ((r14_Holds.f k L (fillF n (L.map o55) picks).1).bind fun t595 => (if t593 = t595 then ((l14_own.f k L).bind fun t597 => ((bounds_Holds.f t597 few).bind fun t600 => ((r14_Holds.f k L few).bind fun t602 => (if t600 = t602 then (l14_BoundsFills.l1 k picks n ds few ((i + 1 : Nat) : Int)) else (some false))))) else (some false))))) true := by
    refine Ev.bind (own_f L (by omega)) ?_
    refine Ev.bind (g := fun _ => bounds_Holds.f (L.map o55) (fillF n (L.map o55) picks).1) (Ev.now _) ?_
    refine Ev.bind (holds_f L (by omega) _) ?_
    refine Ev.congr (fun k => if_pos rfl) ?_
    refine Ev.bind (own_f L (by omega)) ?_
    refine Ev.bind (g := fun _ => bounds_Holds.f (L.map o55) few) (Ev.now _) ?_
    refine Ev.bind (holds_f L (by omega) _) ?_
    refine Ev.congr (fun k => if_pos rfl) ?_
    exact ih
   refine Ev.step (fun k => ?_) hb
   conv => lhs; unfold l14_BoundsFills.j2
   rw [hrd, if_neg (by simp), if_pos (by omega), if_pos (by omega), wrap_nat i (by omega)]
  have hb : Ev (fun k => (l14_own.f k L).bind fun t576 => ((bounds_Fill.f k n t576 picks).bind fun bt579 => ((r14_Fill.f k n L picks).bind fun bt584 => (if bt579.2 = bt584.2 then ((r01_SameInts.f k bt579.1 bt584.1).bind fun t588 => (l14_BoundsFills.j2 k picks n ds few (i : Int) bt579.1 (!t588))) else (l14_BoundsFills.j2 k picks n ds few (i : Int) bt579.1 true))))) true := by
   refine Ev.bind (own_f L (by omega)) ?_
   refine Ev.bind hf.1 ?_
   refine Ev.bind hf.2 ?_
   refine Ev.congr (fun k => if_pos rfl) ?_
   refine Ev.bind (sameInts_f _ hlen) ?_
   exact hj2
  refine Ev.step (fun k => ?_) hb
  conv => lhs; unfold l14_BoundsFills.l1
  rw [hrd, if_pos (by omega), if_pos (by omega), if_pos (by omega)]
theorem fills_l0 (picks : List Int) (n : Int) (ds : List (List S54)) (h2 : ds.length = 2) (hd : ∀ x ∈ ds, x.length ≤ 71) : ∀ d i (few : List Int), i + d = few.length → few.length ≤ 100 → (∀ x ∈ few, I64 x) → Ev (fun k => l14_BoundsFills.l0 k picks n ds few (i : Int)) true
 | 0, i, few, hi, hl, hI => by
  refine Ev.step (fun k => ?_) (fills_l1 picks few n ds h2 hd 2 0 (by omega))
  conv => lhs; unfold l14_BoundsFills.l0
  rw [if_neg (by omega)]
  first | done | rfl
 | d + 1, i, few, hi, hl, hI => by
  have hset : ∀ v : Int, I64 v → ∀ x ∈ few.set i v, I64 x := by
   intro v hv x hx
   rcases List.mem_or_eq_of_mem_set hx with h | h
   ·exact hI x h
   ·rw [h]; exact hv
  refine Ev.step (fun k => ?_) (fills_l0 picks n ds h2 hd d (i + 1) (few.set i (wrap64 (ar (rd few (i : Int)) 2199023255553 - 1099511627776))) (by rw [List.length_set]; omega) (by rw [List.length_set]; exact hl) (hset _ (wrap64_I _)))
  conv => lhs; unfold l14_BoundsFills.l0
  rw [if_pos (by omega), if_pos (by omega), around_f (rd_I hI _), Option.bind_some, wrap_nat i (by omega), Int.toNat_natCast]
theorem BoundsFills : l14_BoundsFills.Pure := by
 intro l0 a1 a2 a3 l4 l5 _ _ h0 h1 h2 h3 _ _ _ _ _ h5
 obtain ⟨n, d, hM, n1, n5, hdl⟩ := made_f (l := l0) (fun x hx => wfI (h0 x hx))
 obtain ⟨t, hB, htl⟩ := bent_f d (by omega) (wfI h1) (wfI h2) (wfI h3)
 have hT : r01_Take.f l5 8 = some (l5.take 8) := take_f l5 8 (by omega)
 have hl := fills_l0 l4 (n : Int) [d, t] rfl (fun x hx => by simp at hx; rcases hx with rfl | rfl <;> omega) (l5.take 8).length 0 (l5.take 8) (by omega) (by simp; omega) (fun x hx => wfI (h5 x (List.mem_of_mem_take hx)))
 refine Ev.rounds ?_
 unfold l14_BoundsFills.f
 refine Ev.bind hM ?_
 refine Ev.bind hB ?_
 refine Ev.bind (g := fun _ => r01_Take.f l5 8) (a := l5.take 8) (Ev.congr (fun _ => hT) (Ev.now _)) ?_
 exact hl
end Go.Proofs.Ytcnkjcbjlopkmaa.Pure
