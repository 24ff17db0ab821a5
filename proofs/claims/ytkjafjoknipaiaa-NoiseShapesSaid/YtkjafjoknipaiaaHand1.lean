/- What noise.Weights and noise.Loss compute, as plain functions; the walk of Weights' range over a function. -/
import Derived.Test.YtkjafjoknipaiaaQ2
import Derived.Test.YtkjafjoknipaiaaHid
import Derived.RangeFuncNested
import Derived.RangeFuncBound
import Derived.RangeFuncCalls
import Derived.RangeFuncLeaves
import Derived.RangeFuncBox
import Derived.Shelf.Abstract
import Derived.WalkKit
import Derived.OwnWalkIn
import Derived.TacticsInMore
import Derived.LoopNIn
import Derived.LoopIn
import Derived.Maps.AppendAt
namespace Go.Proofs.Ytkjafjoknipaiaa.Q
open Go.RowKit Go.Proofs.YtkjafjoknipaiaaW.PrintWords Go.Proofs.YtkjafjoknipaiaaW.PrintLast Go.Proofs.YtkjafjoknipaiaaW.PrintMore
set_option linter.unusedVariables false
set_option linter.unusedSimpArgs false
attribute [local go_sem] max2_int min2_int max_two min_two max_three min_three max_four min_four

/-- Is this a hiding, and a count? -/
structure Hid3 (c m k : Int) : Prop where
  m1 : 1 ≤ m
  m2 : m ≤ 37
  k1 : 1 ≤ k
  k2 : k ≤ 12
  km : k * (m + 1) ≤ 38
  c1 : 0 ≤ c
  c2 : c ≤ m
instance (c m k : Int) : Decidable (Hid3 c m k) :=
  decidable_of_iff (1 ≤ m ∧ m ≤ 37 ∧ 1 ≤ k ∧ k ≤ 12 ∧ k * (m + 1) ≤ 38 ∧ 0 ≤ c ∧ c ≤ m)
    ⟨fun ⟨a, b, c, d, e, f, g⟩ => ⟨a, b, c, d, e, f, g⟩, fun ⟨a, b, c, d, e, f, g⟩ => ⟨a, b, c, d, e, f, g⟩⟩
/-- How far x lies from c. -/
def far (c x : Int) : Int := if x - c < c - x then c - x else x - c
/-- The weight of the number x. -/
def wt (c m k x : Int) : Int :=
  if x = 0 ∨ x = m then 2 ^ (k * (m - far c x)).toNat * 2 ^ k.toNat
  else 2 ^ (k * (m - far c x)).toNat * (2 ^ k.toNat - 1)
def wts (c m k : Int) (n : Nat) : List Int := (List.range n).map (fun i : Nat => wt c m k (i : Int))
def noise_Weights.f (c m k : Int) : Option (List Int × Int) :=
  some (if Hid3 c m k then (wts c m k (m + 1).toNat, 0) else ([], 5))
def noise_Loss.f (a b m k : Int) : Option (Int × Int) :=
  some (if Hid3 a m k ∧ Hid3 b m k then (k * far a b, 0) else (0, 5))

theorem pow_cast (n : Nat) : ((2 ^ n : Nat) : Int) = (2 : Int) ^ n := by rw [Int.natCast_pow]; rfl
theorem pow_38 : (2 : Nat) ^ 38 = 274877906944 := by decide
theorem pow_bd (n : Nat) (h : n ≤ 38) : 1 ≤ (2 : Int) ^ n ∧ (2 : Int) ^ n ≤ 274877906944 := by
  have h1 : (2 : Nat) ^ n ≤ 2 ^ 38 := Nat.pow_le_pow_right (by omega) h
  have h2 : 1 ≤ (2 : Nat) ^ n := Nat.one_le_two_pow
  rw [pow_38] at h1
  rw [← pow_cast]
  omega
theorem valid_f (c m k : Int) : noise_hiding_valid.f c m k = some (decide (Hid3 c m k)) := by
  unfold noise_hiding_valid.f
  have key : 1 ≤ m → m ≤ 37 → 1 ≤ k → k ≤ 12 → wrap64 (k * (wrap64 (m + 1))) = k * (m + 1) := by
    intro h1 h2 h3 h4
    have e : wrap64 (m + 1) = m + 1 := by unfold wrap64; omega
    rw [e]
    have b1 : k * (m + 1) ≤ 12 * (m + 1) := Int.mul_le_mul_of_nonneg_right h4 (by omega)
    have b0 : 0 ≤ k * (m + 1) := Int.mul_nonneg (by omega) (by omega)
    unfold wrap64; omega
  by_cases h1 : m ≥ 1
  · rw [if_pos h1]
    by_cases h2 : m ≤ 37
    · rw [if_pos h2]
      by_cases h3 : k ≥ 1
      · rw [if_pos h3]
        by_cases h4 : k ≤ 12
        · rw [if_pos h4, key h1 h2 h3 h4]
          by_cases h5 : k * (m + 1) ≤ 38
          · rw [if_pos h5]
            by_cases h6 : c ≥ 0
            · rw [if_pos h6]
              congr 1
              exact decide_eq_decide.mpr ⟨fun h => ⟨h1, h2, h3, h4, h5, h6, h⟩, fun h => h.c2⟩
            · rw [if_neg h6, decide_eq_false (fun h => h6 h.c1)]
          · rw [if_neg h5, decide_eq_false (fun h => h5 h.km)]
        · rw [if_neg h4, decide_eq_false (fun h => h4 h.k2)]
      · rw [if_neg h3, decide_eq_false (fun h => h3 h.k1)]
    · rw [if_neg h2, decide_eq_false (fun h => h2 h.m2)]
  · rw [if_neg h1, decide_eq_false (fun h => h1 h.m1)]

theorem far_bd {c m k x : Int} (h : Hid3 c m k) (h0 : 0 ≤ x) (h1 : x ≤ m) : 0 ≤ far c x ∧ far c x ≤ m := by
  have := h.c1; have := h.c2
  unfold far; split <;> omega
theorem exp_bd {c m k x : Int} (h : Hid3 c m k) (h0 : 0 ≤ x) (h1 : x ≤ m) : 0 ≤ k * (m - far c x) ∧ k * (m - far c x) + k ≤ 38 := by
  have ⟨f0, f1⟩ := far_bd h h0 h1
  have := h.k1
  have a1 : 0 ≤ k * (m - far c x) := Int.mul_nonneg (by omega) (by omega)
  have a2 : k * (m - far c x) ≤ k * m := Int.mul_le_mul_of_nonneg_left (by omega) (by omega)
  have a3 := h.km
  rw [Int.mul_add, Int.mul_one] at a3
  omega
theorem wt_bd {c m k x : Int} (h : Hid3 c m k) (h0 : 0 ≤ x) (h1 : x ≤ m) : 1 ≤ wt c m k x ∧ wt c m k x ≤ 274877906944 := by
  have ⟨e0, e1⟩ := exp_bd h h0 h1
  have k1 := h.k1
  have p := pow_bd ((k * (m - far c x)).toNat + k.toNat) (by omega)
  rw [Int.pow_add] at p
  have q := pow_bd (k * (m - far c x)).toNat (by omega)
  have q2 : (2 : Int) ^ 1 ≤ 2 ^ k.toNat := by
    have h4 : (2 : Nat) ^ 1 ≤ 2 ^ k.toNat := Nat.pow_le_pow_right (by omega) (by omega)
    rw [← pow_cast, ← pow_cast]; omega
  unfold wt
  split
  · exact p
  · rw [Int.mul_sub, Int.mul_one]
    have r : 2 ^ (k * (m - far c x)).toNat * 2 ≤ 2 ^ (k * (m - far c x)).toNat * (2 : Int) ^ k.toNat := Int.mul_le_mul_of_nonneg_left (by simpa using q2) (by omega)
    omega

theorem weight_at (c m k x p : Int) (w : World) (hp0 : 0 ≤ wrap64 (k * (m - p))) (hp1 : wrap64 (k * (m - p)) ≤ 64) (hk0 : 0 ≤ k) (hk1 : k ≤ 64)
    (hp : x - c < c - x ∧ p = c - x ∨ ¬ x - c < c - x ∧ p = x - c) (h6 : 0 ≤ c) (h7 : c ≤ 37) (h8 : 0 ≤ x) (h9 : x ≤ 37) (h1 : 1 ≤ m) (h2 : m ≤ 37)
    (b0 b1 : Bool) (hb0 : (x == 0) = b0) (hb1 : (x == m) = b1) (r : Int)
    (hr : r = if (b0 || b1) = true then wrap64 (wrap64 (2 ^ (wrap64 (k * (m - p))).toNat) * 2 ^ k.toNat) else wrap64 (wrap64 (2 ^ (wrap64 (k * (m - p))).toNat) * wrap64 (wrap64 (2 ^ k.toNat) - 1))) :
    Calls Try.prog 20 #[.agg #[.int .i64 c, .int .i64 m, .int .i64 k], .int .i64 x] w fun e w' => e = .returned (.int .i64 r) ∧ Below w.heap.size w w' := by
  have HB := Aside0.mk (Below.refl w.heap.size w)
  cases b0 <;> cases b1 <;> simp only [Bool.or_self, Bool.or_true, Bool.or_false, Bool.true_or, Bool.false_or, if_true, Bool.false_eq_true, if_false] at hr <;> subst hr <;> rcases hp with ⟨h, rfl⟩ | ⟨h, rfl⟩
  all_goals as_aux_lemma =>
    go_enter Try.func20, Try.ntmps20
    go_wp2
    go_ret
    exact ⟨rfl, by repeat (first | exact HB.out | apply below_alloc | apply pw_below_drewN | apply below_drew1)⟩

theorem weight_calls (c m k x : Int) (w : World) (h : Hid3 c m k) (h0 : 0 ≤ x) (h1 : x ≤ m) :
    Calls Try.prog 20 #[.agg #[.int .i64 c, .int .i64 m, .int .i64 k], .int .i64 x] w fun e w' => e = .returned (.int .i64 (wt c m k x)) ∧ Below w.heap.size w w' := by
  have ⟨e0, e1⟩ := exp_bd h h0 h1
  have k1 := h.k1; have k2 := h.k2; have c1 := h.c1; have c2 := h.c2; have m1 := h.m1; have m2 := h.m2
  have ew : wrap64 (k * (m - far c x)) = k * (m - far c x) := by unfold wrap64; omega
  refine weight_at c m k x (far c x) w (by rw [ew]; exact e0) (by rw [ew]; omega) (by omega) (by omega) ?_ c1 (by omega) h0 (by omega) m1 m2 _ _ rfl rfl _ ?_
  · unfold far; split
    · exact .inl ⟨by assumption, rfl⟩
    · exact .inr ⟨by assumption, rfl⟩
  · rw [ew]
    have q := pow_bd (k * (m - far c x)).toNat (by omega)
    have qk := pow_bd k.toNat (by omega)
    have w1 : wrap64 (2 ^ (k * (m - far c x)).toNat) = 2 ^ (k * (m - far c x)).toNat := by unfold wrap64; omega
    have w2 : wrap64 (2 ^ k.toNat) = 2 ^ k.toNat := by unfold wrap64; omega
    have w3 : wrap64 (2 ^ k.toNat - 1) = 2 ^ k.toNat - 1 := by unfold wrap64; omega
    have b := wt_bd h h0 h1
    rw [w1, w2, w3]
    have hw : wt c m k x = if ((x == 0) || (x == m)) = true then 2 ^ (k * (m - far c x)).toNat * 2 ^ k.toNat else 2 ^ (k * (m - far c x)).toNat * (2 ^ k.toNat - 1) := by
      unfold wt; congr 1; simp
    rw [hw] at b ⊢
    by_cases hc : ((x == 0) || (x == m)) = true
    · simp only [if_pos hc] at b ⊢; unfold wrap64; omega
    · simp only [if_neg hc] at b ⊢; unfold wrap64; omega
end Go.Proofs.Ytkjafjoknipaiaa.Q
