/- For all counts and hidings, also ones that are not possible, Weights returns the specified weights or the error. No condition. -/
import Derived.Test.YtkjafjoknipaiaaQ5
import Derived.Test.YtkjafjoknipaiaaEv
namespace Go.Proofs.Ytkjafjoknipaiaa.Pure
open Go.RowKit Go.Proofs.Ytkjafjoknipaiaa.Q Go.Proofs.YtkjafjoknipaiaaW.PrintWords Go.Proofs.YtkjafjoknipaiaaW.PrintLast
set_option linter.unusedVariables false
set_option linter.unusedSimpArgs false

theorem res_length (c m k : Int) : (if Hid3 c m k then (wts c m k (m + 1).toNat, (0 : Int)) else ([], 5)).1.length ≤ 1000000 := by
  split
  · rename_i h
    have := h.m2
    simp only [wts_length]; omega
  · simp
theorem round_ev (xs : List S28) (hx : xs.length ≤ 1000) (d : Nat) : ∀ i : Nat, i + d = xs.length → Ev (fun k => dioramalaw23_NoiseWeights.l0 k xs (i : Int)) true := by
  induction d with
  | zero =>
    intro i hi
    refine Ev.step (f := fun k => (dioramalaw23_lives.f k).bind fun t => some t) (fun k => ?_) (Ev.bind lives_ev (Ev.now _))
    simp only [dioramalaw23_NoiseWeights.l0]
    rw [if_neg (by omega)]
  | succ d ih =>
    intro i hi
    have en : wrap64 ((i : Int) + 1) = ((i + 1 : Nat) : Int) := by unfold wrap64; omega
    generalize hc : (rd_T28 xs (i : Int)).f0 = c
    generalize hm : (rd_T28 xs (i : Int)).f1 = m
    generalize hk : (rd_T28 xs (i : Int)).f2 = q
    refine Ev.step (f := fun k => (dioramaref23_Weights.f k c m q).bind fun b => if (if Hid3 c m q then (wts c m q (m + 1).toNat, (0 : Int)) else ([], 5)).2 = b.2 then ((dioramaref01_SameInts.f k (if Hid3 c m q then (wts c m q (m + 1).toNat, (0 : Int)) else ([], 5)).1 b.1).bind fun t => if t = true then dioramalaw23_NoiseWeights.l0 k xs (wrap64 ((i : Int) + 1)) else some false) else some false) (fun k => ?_) ?_
    · simp only [dioramalaw23_NoiseWeights.l0]
      rw [if_pos (by omega), if_pos (by omega), hc, hm, hk]
      rfl
    · refine Ev.bind (refw_ev c m q) ?_
      simp only [if_true]
      refine Ev.bind (same_ev _ (res_length c m q)) ?_
      simp only [if_true]
      rw [en]
      exact ih (i + 1) (by omega)

theorem NoiseWeights : dioramalaw23_NoiseWeights.Pure := by
  intro a0 a1 a2 h0 h1 h2
  have b0 := wf_bd h0
  have b1 := wf_bd h1
  have b2 := wf_bd h2
  have key : ∃ xs, xs.length ≤ 1000 ∧ dioramalaw23_odd.f a0 a1 a2 = some xs := by
    unfold dioramalaw23_odd.f
    rw [hiding_f b1 b2]
    simp only [Option.bind_some]
    rw [around_f b0]
    simp only [Option.bind_some]
    exact ⟨_, by simp, rfl⟩
  obtain ⟨xs, hx, hxs⟩ := key
  refine (Ev.congr (f := fun k => dioramalaw23_NoiseWeights.l0 k xs 0) (fun k => ?_) (round_ev xs hx xs.length 0 (by omega))).rounds
  unfold dioramalaw23_NoiseWeights.f
  rw [hxs]
  rfl

end Go.Proofs.Ytkjafjoknipaiaa.Pure
