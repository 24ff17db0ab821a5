/- What the reference's functions come to, with enough rounds: Fits, power, Weights, SameInts at equal lists. -/
import Derived.Test.YtkjafjoknipaiaaQ3
import Derived.Test.YtkjafjoknipaiaaQ4
import Derived.Test.YtkjafjoknipaiaaHand
import Derived.DataShut
namespace Go.Proofs.Ytkjafjoknipaiaa.Q
open Go.RowKit Go.Proofs.YtkjafjoknipaiaaW.PrintWords Go.Proofs.YtkjafjoknipaiaaW.PrintLast Go.Proofs.YtkjafjoknipaiaaW.PrintMore
set_option linter.unusedVariables false
set_option linter.unusedSimpArgs false

theorem fits_f (m k : Int) : dioramaref23_Fits.f m k = some (decide (1 ≤ m ∧ m ≤ 37 ∧ 1 ≤ k ∧ k ≤ 12 ∧ k * (m + 1) ≤ 38)) := by
  have key : 1 ≤ m → m ≤ 37 → 1 ≤ k → k ≤ 12 → wrap64 (k * (wrap64 (m + 1))) = k * (m + 1) := by
    intro h1 h2 h3 h4
    have e : wrap64 (m + 1) = m + 1 := by unfold wrap64; omega
    rw [e]
    have b1 : k * (m + 1) ≤ 12 * (m + 1) := Int.mul_le_mul_of_nonneg_right h4 (by omega)
    have b0 : 0 ≤ k * (m + 1) := Int.mul_nonneg (by omega) (by omega)
    unfold wrap64; omega
  unfold dioramaref23_Fits.f
  by_cases h1 : m ≥ 1
  · rw [if_pos h1]
    by_cases h2 : m ≤ 37
    · rw [if_pos h2]
      by_cases h3 : k ≥ 1
      · rw [if_pos h3]
        by_cases h4 : k ≤ 12
        · rw [if_pos h4, key h1 h2 h3 h4]
          congr 1
          exact decide_eq_decide.mpr ⟨fun h => ⟨h1, h2, h3, h4, h⟩, fun h => h.2.2.2.2⟩
        · rw [if_neg h4, decide_eq_false (fun h => h4 h.2.2.2.1)]
      · rw [if_neg h3, decide_eq_false (fun h => h3 h.2.2.1)]
    · rw [if_neg h2, decide_eq_false (fun h => h2 h.2.1)]
  · rw [if_neg h1, decide_eq_false (fun h => h1 h.1)]

theorem pow_succ2 (i : Nat) (h : i + 1 ≤ 38) : wrap64 ((2 : Int) ^ i * 2) = 2 ^ (i + 1) := by
  have := pow_bd (i + 1) h
  rw [Int.pow_succ] at this ⊢
  unfold wrap64; omega
theorem power_l0 (n : Nat) (hn : n ≤ 38) (d : Nat) : ∀ i : Nat, i + d = n → Ev (fun k => dioramaref23_power.l0 k (n : Int) (2 ^ i) (i : Int)) (2 ^ n) := by
  induction d with
  | zero =>
    intro i hi
    obtain rfl : i = n := by omega
    refine Ev.step (f := fun _ => some (2 ^ i)) (fun k => ?_) (Ev.now _)
    simp only [dioramaref23_power.l0]
    rw [if_neg (by omega)]
  | succ d ih =>
    intro i hi
    refine Ev.step (fun k => ?_) (ih (i + 1) (by omega))
    simp only [dioramaref23_power.l0]
    rw [if_pos (by omega), pow_succ2 i (by omega)]
    have e : wrap64 ((i : Int) + 1) = ((i + 1 : Nat) : Int) := by unfold wrap64; omega
    rw [e]
theorem power_ev (n : Int) (h0 : 0 ≤ n) (h1 : n ≤ 38) : Ev (fun k => dioramaref23_power.f k n) (2 ^ n.toNat) := by
  obtain ⟨m, rfl⟩ : ∃ m : Nat, n = m := ⟨n.toNat, by omega⟩
  have := power_l0 m (by omega) m 0 (by omega)
  rw [Int.toNat_natCast]
  exact this

theorem rd_nat (l : List Int) (i : Nat) : rd l (i : Int) = l.getD i 0 := by unfold rd; rw [Int.toNat_natCast]
theorem same_l0 (l : List Int) (hl : l.length ≤ 1000000) (d : Nat) : ∀ i : Nat, i + d = l.length → Ev (fun k => dioramaref01_SameInts.l0 k l l (i : Int)) true := by
  induction d with
  | zero =>
    intro i hi
    refine Ev.step (f := fun _ => some true) (fun k => ?_) (Ev.now _)
    simp only [dioramaref01_SameInts.l0]
    rw [if_neg (by omega)]
  | succ d ih =>
    intro i hi
    refine Ev.step (fun k => ?_) (ih (i + 1) (by omega))
    simp only [dioramaref01_SameInts.l0]
    rw [if_pos (by omega), if_pos (by omega), if_pos (by omega), if_pos trivial]
    have e : wrap64 ((i : Int) + 1) = ((i + 1 : Nat) : Int) := by unfold wrap64; omega
    rw [e]
theorem same_ev (l : List Int) (hl : l.length ≤ 1000000) : Ev (fun k => dioramaref01_SameInts.f k l l) true := by
  refine Ev.congr (fun k => ?_) (same_l0 l hl l.length 0 (by omega))
  unfold dioramaref01_SameInts.f
  rw [if_pos rfl]
  rfl

theorem wts_length (c m k : Int) (n : Nat) : (wts c m k n).length = n := by simp [wts]
theorem wts_lt (c m k : Int) (i : Nat) (h : i ≤ 100) : (wts c m k i).length < 17592186044416 := by rw [wts_length]; omega
theorem mx_far (c x : Int) (h0 : 0 ≤ c) (h1 : c ≤ 37) (h2 : 0 ≤ x) (h3 : x ≤ 37) : mx (wrap64 (x - c)) (wrap64 (c - x)) = far c x := by
  have e1 : wrap64 (x - c) = x - c := by unfold wrap64; omega
  have e2 : wrap64 (c - x) = c - x := by unfold wrap64; omega
  rw [e1, e2]; rfl
theorem refw_l0 {c m k : Int} (h : Hid3 c m k) (d : Nat) : ∀ i : Nat, i + d = (m + 1).toNat → Ev (fun j => dioramaref23_Weights.l0 j c m k (wts c m k i) (i : Int)) (wts c m k (m + 1).toNat, 0) := by
  have m1 := h.m1; have m2 := h.m2; have k1 := h.k1; have k2 := h.k2; have c1 := h.c1; have c2 := h.c2; have km := h.km
  have kb : k ≤ 38 := by omega
  induction d with
  | zero =>
    intro i hi
    obtain rfl : i = (m + 1).toNat := by omega
    refine Ev.step (f := fun _ => some (wts c m k (m + 1).toNat, 0)) (fun j => ?_) (Ev.now _)
    simp only [dioramaref23_Weights.l0]
    rw [if_neg (by omega)]
  | succ d ih =>
    intro i hi
    have hi0 : (0 : Int) ≤ i := by omega
    have him : (i : Int) ≤ m := by omega
    have lt : (wts c m k i).length < 17592186044416 := wts_lt c m k i (by omega)
    have ⟨e0, e1⟩ := exp_bd h hi0 him
    have hb := wt_bd h hi0 him
    have ew : wrap64 (k * (wrap64 (m - mx (wrap64 ((i : Int) - c)) (wrap64 (c - (i : Int)))))) = k * (m - far c i) := by
      rw [mx_far c i c1 (by omega) hi0 (by omega)]
      have ⟨f0, f1⟩ := far_bd h hi0 him
      have a1 : wrap64 (m - far c i) = m - far c i := by unfold wrap64; omega
      rw [a1]
      unfold wrap64; omega
    have q := pow_bd (k * (m - far c i)).toNat (by omega)
    have qk := pow_bd k.toNat (by omega)
    have en : wrap64 ((i : Int) + 1) = ((i + 1 : Nat) : Int) := by unfold wrap64; omega
    refine Ev.step (f := fun j => (dioramaref23_power.f j (k * (m - far c i))).bind fun t => if (i : Int) = 0 then dioramaref23_Weights.j2 j c m k (wts c m k i) i t true else dioramaref23_Weights.j2 j c m k (wts c m k i) i t ((i : Int) == m)) (fun j => ?_) ?_
    · simp only [dioramaref23_Weights.l0]
      rw [if_pos him, ew]
    · refine Ev.bind (power_ev _ e0 (by omega)) ?_
      have hn := ih (i + 1) (by omega)
      by_cases hc : (i : Int) = 0 ∨ (i : Int) = m
      · have hw : wt c m k i = 2 ^ (k * (m - far c i)).toNat * 2 ^ k.toNat := by unfold wt; rw [if_pos hc]
        rw [hw] at hb
        have hww : wrap64 (2 ^ (k * (m - far c i)).toNat * 2 ^ k.toNat) = wt c m k i := by rw [hw]; unfold wrap64; omega
        have hj : Ev (fun j => dioramaref23_Weights.j2 j c m k (wts c m k i) i (2 ^ (k * (m - far c i)).toNat) true) (wts c m k (m + 1).toNat, 0) := by
          refine Ev.step (f := fun j => (dioramaref23_power.f j k).bind fun t => if (wts c m k i).length < 17592186044416 then dioramaref23_Weights.l0 j c m k (wts c m k i ++ [wrap64 (2 ^ (k * (m - far c i)).toNat * t)]) (wrap64 ((i : Int) + 1)) else none) (fun j => ?_) ?_
          · simp only [dioramaref23_Weights.j2]; rw [if_pos trivial]
          · refine Ev.bind (power_ev k (by omega) kb) ?_
            simp only [if_pos lt, hww, en, ← wts_snoc]
            exact hn
        by_cases hz : (i : Int) = 0
        · simp only [if_pos hz]; exact hj
        · simp only [if_neg hz]
          have : ((i : Int) == m) = true := beq_iff_eq.mpr (hc.resolve_left hz)
          rw [this]; exact hj
      · have hw : wt c m k i = 2 ^ (k * (m - far c i)).toNat * (2 ^ k.toNat - 1) := by unfold wt; rw [if_neg hc]
        rw [hw] at hb
        have w1 : wrap64 ((2 : Int) ^ k.toNat - 1) = 2 ^ k.toNat - 1 := by unfold wrap64; omega
        have hww : wrap64 (2 ^ (k * (m - far c i)).toNat * (wrap64 (2 ^ k.toNat - 1))) = wt c m k i := by rw [w1, hw]; unfold wrap64; omega
        have hj : Ev (fun j => dioramaref23_Weights.j2 j c m k (wts c m k i) i (2 ^ (k * (m - far c i)).toNat) false) (wts c m k (m + 1).toNat, 0) := by
          refine Ev.step (f := fun j => (dioramaref23_power.f j k).bind fun t => if (wts c m k i).length < 17592186044416 then dioramaref23_Weights.l0 j c m k (wts c m k i ++ [wrap64 (2 ^ (k * (m - far c i)).toNat * (wrap64 (t - 1)))]) (wrap64 ((i : Int) + 1)) else none) (fun j => ?_) ?_
          · simp only [dioramaref23_Weights.j2]; rw [if_neg (by simp)]
          · refine Ev.bind (power_ev k (by omega) kb) ?_
            simp only [if_pos lt, hww, en, ← wts_snoc]
            exact hn
        simp only [if_neg (show ¬ (i : Int) = 0 from fun h => hc (.inl h))]
        have : ((i : Int) == m) = false := beq_eq_false_iff_ne.mpr (fun h => hc (.inr h))
        rw [this]; exact hj

theorem refw_j0_no (c m k : Int) : Ev (fun j => dioramaref23_Weights.j0 j c m k true) (([] : List Int), 5) := by
  refine Ev.step (f := fun _ => some (([] : List Int), 5)) (fun j => ?_) (Ev.now _)
  simp only [dioramaref23_Weights.j0]; rw [if_pos trivial]
theorem refw_ev (c m k : Int) : Ev (fun j => dioramaref23_Weights.f j c m k) (if Hid3 c m k then (wts c m k (m + 1).toNat, 0) else ([], 5)) := by
  by_cases h : 1 ≤ m ∧ m ≤ 37 ∧ 1 ≤ k ∧ k ≤ 12 ∧ k * (m + 1) ≤ 38
  · by_cases h2 : c < 0
    · rw [if_neg (fun hh : Hid3 c m k => by have := hh.c1; omega)]
      refine Ev.congr (fun j => ?_) (refw_j0_no c m k)
      unfold dioramaref23_Weights.f
      rw [fits_f, decide_eq_true h]; simp only [Option.bind_some, if_true]; rw [if_pos h2]
    · by_cases h3 : c > m
      · rw [if_neg (fun hh : Hid3 c m k => by have := hh.c2; omega)]
        refine Ev.congr (fun j => ?_) (refw_j0_no c m k)
        unfold dioramaref23_Weights.f
        rw [fits_f, decide_eq_true h]; simp only [Option.bind_some, if_true]; rw [if_neg h2, decide_eq_true h3]
      · have hh : Hid3 c m k := ⟨h.1, h.2.1, h.2.2.1, h.2.2.2.1, h.2.2.2.2, by omega, by omega⟩
        rw [if_pos hh]
        refine Ev.congr (g := fun j => dioramaref23_Weights.f j c m k) (f := fun j => dioramaref23_Weights.j0 j c m k false) (fun j => ?_) ?_
        · unfold dioramaref23_Weights.f
          rw [fits_f, decide_eq_true h]; simp only [Option.bind_some, if_true]; rw [if_neg h2, decide_eq_false h3]
        · refine Ev.step (f := fun j => dioramaref23_Weights.l0 j c m k [] 0) (fun j => ?_) (refw_l0 hh (m + 1).toNat 0 (by omega))
          simp only [dioramaref23_Weights.j0]; rw [if_neg (by simp)]
  · rw [if_neg (fun hh : Hid3 c m k => h ⟨hh.m1, hh.m2, hh.k1, hh.k2, hh.km⟩)]
    refine Ev.congr (fun j => ?_) (refw_j0_no c m k)
    unfold dioramaref23_Weights.f
    rw [fits_f, decide_eq_false h]; simp only [Option.bind_some, Bool.false_eq_true, if_false]

theorem wf_bd {n : Int} (h : (Lit.int .i64 n).wf = true) : -9223372036854775808 ≤ n ∧ n ≤ 9223372036854775807 := by
  rw [Lit.wf_int_iff] at h
  exact ⟨h.1, h.2⟩
theorem around_f {n : Int} (h : -9223372036854775808 ≤ n ∧ n ≤ 9223372036854775807) (m : Int) : dioramaref01_Around.f n m = some (ar n m) := by
  unfold dioramaref01_Around.f; rw [if_pos h]
theorem hidTop_pos (t : Int) : 1 ≤ hidTop t := by unfold hidTop; (repeat' split) <;> omega
/-- most and cost. -/
def mostOf (n c : Int) : Int := 1 + ar n (hidTop (ar c 6))
def costOf (c : Int) : Int := 1 + ar c 6
theorem hiding_f {n c : Int} (hn : -9223372036854775808 ≤ n ∧ n ≤ 9223372036854775807) (hc : -9223372036854775808 ≤ c ∧ c ≤ 9223372036854775807) :
    dioramaref23_Hiding.f n c = some (mostOf n c, costOf c) := by
  unfold dioramaref23_Hiding.f
  have a0 := ar_nonneg c 6
  have a1 := ar_lt c 6 (by omega)
  have b0 := ar_nonneg n (hidTop (ar c 6))
  have b1 := ar_lt n (hidTop (ar c 6)) (hidTop_pos _)
  rw [around_f hc]
  simp only [Option.bind_some]
  rw [if_pos ⟨a0, by omega⟩, around_f hn]
  simp only [Option.bind_some]
  rw [if_pos ⟨b0, b1⟩]
  rfl
theorem hid_of (n c t : Int) (h0 : 0 ≤ t) (h1 : t ≤ mostOf n c) : Hid3 t (mostOf n c) (costOf c) := by
  have a0 := ar_nonneg c 6
  have a1 := ar_lt c 6 (by omega)
  have b0 := ar_nonneg n (hidTop (ar c 6))
  have b1 := ar_lt n (hidTop (ar c 6)) (hidTop_pos _)
  unfold mostOf costOf at *
  generalize ar c 6 = s at *
  generalize ar n (hidTop s) = u at *
  have : s = 0 ∨ s = 1 ∨ s = 2 ∨ s = 3 ∨ s = 4 ∨ s = 5 := by omega
  rcases this with rfl | rfl | rfl | rfl | rfl | rfl <;> simp [hidTop] at b1 <;> exact ⟨by omega, by omega, by omega, by omega, by omega, by omega, by omega⟩
theorem lives_w1 : noise_Weights.f 1 3 1 = some ([8, 8, 4, 4], 0) := by decide +kernel
theorem lives_w2 : noise_Weights.f 0 3 1 = some ([16, 4, 2, 2], 0) := by decide +kernel
theorem lives_l : noise_Loss.f 0 3 3 1 = some (3, 0) := by decide +kernel
theorem lives_ev : Ev (fun k => dioramalaw23_lives.f k) true := by
  refine Ev.congr (f := fun k => (dioramaref01_SameInts.f k [8, 8, 4, 4] [8, 8, 4, 4]).bind fun t => if t = true then ((dioramaref01_SameInts.f k [16, 4, 2, 2] [16, 4, 2, 2]).bind fun u => if u = true then some true else some false) else some false) (fun k => ?_) ?_
  · unfold dioramalaw23_lives.f
    rw [lives_w1, lives_w2, lives_l]
    simp only [Option.bind_some, if_true]
    rfl
  · refine Ev.bind (same_ev _ (by decide)) ?_
    simp only [if_true]
    refine Ev.bind (same_ev _ (by decide)) ?_
    simp only [if_true]
    exact Ev.now _
end Go.Proofs.Ytkjafjoknipaiaa.Q
