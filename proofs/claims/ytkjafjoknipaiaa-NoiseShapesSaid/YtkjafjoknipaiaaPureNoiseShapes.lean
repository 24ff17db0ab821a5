/- For all counts and hidings, all weights are greater than 0, and their sum is (2^cost + 1) times 2^(cost * most); those of the mirrored count are the mirrored ones; between the ends none is greater than that of the true count, and they do not grow with the distance. No condition. -/
import Derived.Test.YtkjafjoknipaiaaQ8
import Derived.Test.YtkjafjoknipaiaaEv
namespace Go.Proofs.Ytkjafjoknipaiaa.Pure
open Go.RowKit Go.Proofs.Ytkjafjoknipaiaa.Q Go.Proofs.YtkjafjoknipaiaaW.PrintWords Go.Proofs.YtkjafjoknipaiaaW.PrintLast Go.Proofs.YtkjafjoknipaiaaW.PrintMore
set_option linter.unusedVariables false
set_option linter.unusedSimpArgs false

theorem rd_wts (c m k : Int) (n i : Nat) (h : i < n) : rd (wts c m k n) (i : Int) = wt c m k (i : Int) := by
  rw [rd_nat, List.getD_eq_getElem?_getD, List.getElem?_eq_getElem (by rw [wts_length]; exact h)]
  simp [wts]
theorem wrap_q (q : Nat) (h : q ≤ 1000) : wrap64 ((q : Int) + 1) = ((q + 1 : Nat) : Int) := by unfold wrap64; omega
/-- The sum of the first n weights. -/
def sumTo (c m k : Int) : Nat → Int
  | 0 => 0
  | n + 1 => sumTo c m k n + wt c m k (n : Int)
/-- What the sum comes to. -/
def P (k e : Int) : Int := 2 ^ (k * e).toNat
theorem P_add (k e d : Int) (h0 : 0 ≤ k) (h1 : 0 ≤ e) (h2 : 0 ≤ d) : P k (e + d) = P k e * P k d := by
  unfold P
  rw [Int.mul_add, Int.toNat_add (Int.mul_nonneg h0 h1) (Int.mul_nonneg h0 h2), Int.pow_add]
theorem wt_P (c m k x : Int) (k0 : 0 ≤ k) : wt c m k x = P k (m - far c x) * (if x = 0 ∨ x = m then P k 1 else P k 1 - 1) := by
  unfold wt P
  rw [Int.mul_one]
  split <;> rfl
/-- The sum up to the number n (not with it), n no end's: to the left of the count it is A^(m - c + n) + .. -/
theorem sum_left {c m k : Int} (h : Hid3 c m k) : ∀ n : Nat, 1 ≤ n → (n : Int) ≤ c → (n : Int) ≤ m → sumTo c m k n = P k (m - c + n) := by
  have m1 := h.m1; have k1 := h.k1; have c1 := h.c1; have c2 := h.c2
  intro n
  induction n with
  | zero => intro h0; omega
  | succ n ih =>
    intro _ hc hm
    by_cases hn : n = 0
    · subst hn
      simp only [sumTo]
      rw [wt_P _ _ _ _ (by omega), if_pos (.inl rfl), ← P_add _ _ _ (by omega) (by unfold far; split <;> omega) (by omega)]
      have : m - far c ((0 : Nat) : Int) + 1 = m - c + ((0 + 1 : Nat) : Int) := by unfold far; split <;> omega
      rw [this]; omega
    · simp only [sumTo]
      rw [ih (by omega) (by omega) (by omega), wt_P _ _ _ _ (by omega), if_neg (by omega)]
      have : m - far c (n : Int) = m - c + n := by unfold far; split <;> omega
      rw [this, Int.mul_sub, ← P_add _ _ _ (by omega) (by omega) (by omega), Int.mul_one]
      have : m - c + (n : Int) + 1 = m - c + ((n + 1 : Nat) : Int) := by omega
      rw [this]; omega

theorem sum_right {c m k : Int} (h : Hid3 c m k) : ∀ n : Nat, c + 1 ≤ n → (n : Int) ≤ m → sumTo c m k n = P k (m + 1) + P k m - P k (m - n + c + 1) := by
  have m1 := h.m1; have k1 := h.k1; have c1 := h.c1; have c2 := h.c2
  intro n
  induction n with
  | zero => intro h0; omega
  | succ n ih =>
    intro hc hm
    simp only [sumTo]
    by_cases hn : (n : Int) = c
    · have e1 : m - ((n + 1 : Nat) : Int) + c + 1 = m := by omega
      rw [e1]
      by_cases hz : n = 0
      · subst hz
        simp only [sumTo]
        rw [wt_P _ _ _ _ (by omega), if_pos (.inl rfl), ← P_add _ _ _ (by omega) (by unfold far; split <;> omega) (by omega)]
        have : m - far c ((0 : Nat) : Int) + 1 = m + 1 := by unfold far; split <;> omega
        rw [this]; omega
      · rw [sum_left h n (by omega) (by omega) (by omega), wt_P _ _ _ _ (by omega), if_neg (by omega)]
        have e2 : m - far c (n : Int) = m := by unfold far; split <;> omega
        have e3 : m - c + (n : Int) = m := by omega
        rw [e2, e3, Int.mul_sub, ← P_add _ _ _ (by omega) (by omega) (by omega), Int.mul_one]
        omega
    · rw [ih (by omega) (by omega), wt_P _ _ _ _ (by omega), if_neg (by omega)]
      have e2 : m - far c (n : Int) = m - ((n + 1 : Nat) : Int) + c + 1 := by unfold far; split <;> omega
      rw [e2, Int.mul_sub, ← P_add _ _ _ (by omega) (by omega) (by omega), Int.mul_one]
      have e3 : m - ((n + 1 : Nat) : Int) + c + 1 + 1 = m - (n : Int) + c + 1 := by omega
      rw [e3]; omega
theorem sum_all {c m k : Int} (h : Hid3 c m k) : sumTo c m k (m + 1).toNat = P k (m + 1) + P k m := by
  have m1 := h.m1; have k1 := h.k1; have c1 := h.c1; have c2 := h.c2
  obtain ⟨n, hn⟩ : ∃ n : Nat, m = n := ⟨m.toNat, by omega⟩
  have e : (m + 1).toNat = n + 1 := by omega
  rw [e]
  simp only [sumTo]
  rw [wt_P _ _ _ _ (by omega), if_pos (.inr hn.symm), ← P_add _ _ _ (by omega) (by unfold far; split <;> omega) (by omega)]
  by_cases hc : c = m
  · rw [sum_left h n (by omega) (by omega) (by omega)]
    have e1 : m - c + (n : Int) = m := by omega
    have e2 : m - far c (n : Int) + 1 = m + 1 := by unfold far; split <;> omega
    rw [e1, e2]; omega
  · rw [sum_right h n (by omega) (by omega)]
    have e1 : m - (n : Int) + c + 1 = c + 1 := by omega
    have e2 : m - far c (n : Int) + 1 = c + 1 := by unfold far; split <;> omega
    rw [e1, e2]; omega
theorem sum_mono {c m k : Int} (h : Hid3 c m k) (d : Nat) : ∀ i : Nat, i + d ≤ (m + 1).toNat → 0 ≤ sumTo c m k i ∧ sumTo c m k i ≤ sumTo c m k (i + d) := by
  have pos : ∀ i : Nat, i ≤ (m + 1).toNat → 0 ≤ sumTo c m k i := by
    intro i
    induction i with
    | zero => intro _; exact Int.le_refl _
    | succ i ih =>
      intro hi
      have := wt_bd h (x := (i : Int)) (by omega) (by omega)
      have := ih (by omega)
      simp only [sumTo]; omega
  induction d with
  | zero => intro i hi; exact ⟨pos i (by omega), Int.le_refl _⟩
  | succ d ih =>
    intro i hi
    have h1 := ih i (by omega)
    have := wt_bd h (x := ((i + d : Nat) : Int)) (by omega) (by omega)
    refine ⟨h1.1, ?_⟩
    show _ ≤ sumTo c m k (i + d + 1)
    simp only [sumTo]; omega
theorem P_bd {k e : Int} (h0 : 0 ≤ k * e) (h1 : k * e ≤ 38) : 1 ≤ P k e ∧ P k e ≤ 274877906944 := pow_bd (k * e).toNat (by omega)
theorem all_bd {c m k : Int} (h : Hid3 c m k) : P k (m + 1) + P k m ≤ 549755813888 := by
  have m1 := h.m1; have k1 := h.k1; have km := h.km
  have a0 : 0 ≤ k * m := Int.mul_nonneg (by omega) (by omega)
  have e : k * (m + 1) = k * m + k := by rw [Int.mul_add, Int.mul_one]
  have p1 := P_bd (k := k) (e := m + 1) (by omega) km
  have p2 := P_bd (k := k) (e := m) a0 (by omega)
  omega
theorem sum_l0 {c m k : Int} (h : Hid3 c m k) (d : Nat) : ∀ i : Nat, i + d = (m + 1).toNat → Ev (fun j => dioramaref23_Sum.l0 j (wts c m k (m + 1).toNat) (sumTo c m k i) (i : Int)) (P k (m + 1) + P k m) := by
  have m2 := h.m2
  have la := wts_length c m k (m + 1).toNat
  have sa := sum_all h
  have sb := all_bd h
  induction d with
  | zero =>
    intro i hi
    refine Ev.step (f := fun _ => some (P k (m + 1) + P k m)) (fun j => ?_) (Ev.now _)
    have ei : i = (m + 1).toNat := by omega
    simp only [dioramaref23_Sum.l0]
    rw [if_neg (fun h => by have := Int.ofNat_lt.mp h; rw [la] at this; omega), ei, sa]
  | succ d ih =>
    intro i hi
    have hn : i < (m + 1).toNat := by omega
    have s1 := sum_mono h d (i + 1) (by omega)
    have s2 : i + 1 + d = (m + 1).toNat := by omega
    rw [s2, sa] at s1
    refine Ev.step (fun j => ?_) (ih (i + 1) (by omega))
    simp only [dioramaref23_Sum.l0]
    have ew : wrap64 (sumTo c m k i + wt c m k (i : Int)) = sumTo c m k (i + 1) := by
      show wrap64 (sumTo c m k (i + 1)) = _
      generalize sumTo c m k (i + 1) = z at *
      generalize P k (m + 1) + P k m = y at *
      unfold wrap64; omega
    rw [if_pos (Int.ofNat_lt.mpr (by rw [la]; exact hn)), if_pos (by omega), rd_wts c m k _ i hn, ew, wrap_q i (by omega)]
theorem P_succ (k e : Int) (h0 : 0 ≤ k) (h1 : 0 ≤ e) : P k e ≤ P k (e + 1) := by
  unfold P
  rw [← pow_cast, ← pow_cast]
  refine Int.ofNat_le.mpr (Nat.pow_le_pow_right (by omega) ?_)
  have : k * (e + 1) = k * e + k := by rw [Int.mul_add, Int.mul_one]
  omega
/-- Nearer to the count, between the ends: not less. -/
theorem nearer {c m k x y : Int} (h : Hid3 c m k) (hx : 0 < x ∧ x < m) (hy : 0 < y ∧ y < m) (hf : far c x = far c y + 1) : wt c m k x ≤ wt c m k y := by
  have k1 := h.k1; have k2 := h.k2
  have fx := far_bd h (x := x) (by omega) (by omega)
  rw [wt_P _ _ _ _ (by omega), wt_P _ _ _ _ (by omega), if_neg (by omega), if_neg (by omega)]
  have e : m - far c y = m - far c x + 1 := by omega
  rw [e]
  have p := P_succ k (m - far c x) (by omega) (by omega)
  have q : 1 ≤ P k 1 := (pow_bd (k * 1).toNat (by omega)).1
  exact Int.mul_le_mul_of_nonneg_right p (by omega)
theorem mirror {c m k x : Int} (h : Hid3 c m k) (h0 : 0 ≤ x) (h1 : x ≤ m) : wt (m - c) m k (m - x) = wt c m k x := by
  have k1 := h.k1
  rw [wt_P _ _ _ _ (by omega), wt_P _ _ _ _ (by omega)]
  have e : far (m - c) (m - x) = far c x := by unfold far; (repeat' split) <;> omega
  rw [e]
  by_cases hx : x = 0 ∨ x = m
  · rw [if_pos hx, if_pos (by omega)]
  · rw [if_neg hx, if_neg (by omega)]
theorem shapes_l0 {c m k : Int} (h : Hid3 c m k) (hm : Hid3 (m - c) m k) (d : Nat) : ∀ i : Nat, i + d = (m + 1).toNat →
    Ev (fun j => dioramalaw23_NoiseShapes.l0 j m c (wts c m k (m + 1).toNat) (wts (m - c) m k (m + 1).toNat) (i : Int)) true := by
  have m1 := h.m1; have m2 := h.m2
  have la := wts_length c m k (m + 1).toNat
  have lb := wts_length (m - c) m k (m + 1).toNat
  induction d with
  | zero =>
    intro i hi
    refine Ev.step (f := fun j => (dioramalaw23_lives.f j).bind fun t => some t) (fun j => ?_) (Ev.bind lives_ev (Ev.now _))
    simp only [dioramalaw23_NoiseShapes.l0]
    rw [if_neg (by omega)]
  | succ d ih =>
    intro i hi
    have hn : i < (m + 1).toNat := by omega
    have hi0 : (0 : Int) ≤ i := by omega
    have him : (i : Int) ≤ m := by omega
    have wb := wt_bd h hi0 him
    obtain ⟨z, hz⟩ : ∃ z : Nat, m - (i : Int) = z := ⟨(m - i).toNat, by omega⟩
    have hzn : z < (m + 1).toNat := by omega
    have ew : wrap64 (m - (i : Int)) = (z : Int) := by unfold wrap64; omega
    have em : (rd (wts c m k (m + 1).toNat) (i : Int) != rd (wts (m - c) m k (m + 1).toNat) (z : Int)) = false := by
      rw [rd_wts c m k _ i hn, rd_wts (m - c) m k _ z hzn, ← hz, mirror h hi0 him]
      exact bne_self_eq_false _
    have hj : Ev (fun j => dioramalaw23_NoiseShapes.j2 j m c (wts c m k (m + 1).toNat) (wts (m - c) m k (m + 1).toNat) (i : Int) false) true := by
      refine Ev.step (fun j => ?_) (ih (i + 1) (by omega))
      simp only [dioramalaw23_NoiseShapes.j2]
      rw [if_neg (by simp), wrap_q i (by omega)]
      by_cases h1 : (i : Int) > 1
      · rw [if_pos h1]
        by_cases h2 : (i : Int) < m
        · rw [if_pos h2]
          obtain ⟨y, hy⟩ : ∃ y : Nat, (i : Int) - 1 = y := ⟨i - 1, by omega⟩
          have hyn : y < (m + 1).toNat := by omega
          have ey : wrap64 ((i : Int) - 1) = (y : Int) := by unfold wrap64; omega
          have ly : (y : Int) < ((wts c m k (m + 1).toNat).length : Int) := Int.ofNat_lt.mpr (by rw [la]; exact hyn)
          have li : (i : Int) < ((wts c m k (m + 1).toNat).length : Int) := Int.ofNat_lt.mpr (by rw [la]; exact hn)
          rw [ey]
          by_cases h3 : (i : Int) ≤ c
          · have le := nearer h (x := (y : Int)) (y := (i : Int)) (by omega) (by omega) (by unfold far; (repeat' split) <;> omega)
            rw [if_pos h3, if_pos (by omega), if_pos ly, if_pos hi0, if_pos li, rd_wts c m k _ i hn, rd_wts c m k _ y hyn, if_neg (Int.not_lt.mpr le), if_neg (by omega)]
          · have le := nearer h (x := (i : Int)) (y := (y : Int)) (by omega) (by omega) (by unfold far; (repeat' split) <;> omega)
            rw [if_neg h3, if_pos (by omega), if_pos (by omega), if_pos ly, if_pos hi0, if_pos li, rd_wts c m k _ i hn, rd_wts c m k _ y hyn, if_neg (Int.not_lt.mpr le)]
        · rw [if_neg h2]
      · rw [if_neg h1]
    refine Ev.step (fun j => ?_) hj
    simp only [dioramalaw23_NoiseShapes.l0]
    rw [if_pos him, if_pos hi0, if_pos (Int.ofNat_lt.mpr (by rw [la]; exact hn)), ew, em, rd_wts c m k _ i hn, if_neg (by omega), if_pos (by omega), if_pos (Int.ofNat_lt.mpr (by rw [lb]; exact hzn))]
theorem shl_c (v k : Int) (r : Int) (h0 : 0 ≤ k) (h1 : k ≤ 38) (hr : v * 2 ^ k.toNat = r) (r0 : 0 ≤ r) (r1 : r ≤ 549755813888) : shl .i64 v (IntKind.u64.wrap k) = r := by
  have e : IntKind.u64.wrap k = k := by
    simp only [IntKind.wrap_u64]
    omega
  unfold shl
  rw [e, show min k.toNat IntKind.i64.bits = k.toNat from Nat.min_eq_left (by show k.toNat ≤ 64; omega), i64_w, hr]
  unfold wrap64; omega
theorem NoiseShapes : dioramalaw23_NoiseShapes.Pure := by
  intro a0 a1 a2 h0 h1 h2
  have b0 := wf_bd h0
  have b1 := wf_bd h1
  have b2 := wf_bd h2
  have cx0 := ar_nonneg a0 (mostOf a1 a2 + 1)
  have hM := hid_of a1 a2 0 (by omega) (by unfold mostOf; have := ar_nonneg a1 (hidTop (ar a2 6)); omega)
  have m1 := hM.m1
  have m2 := hM.m2
  have k1 := hM.k1
  have k2 := hM.k2
  have km := hM.km
  have cx1 := ar_lt a0 (mostOf a1 a2 + 1) (by omega)
  have ew : wrap64 (mostOf a1 a2 + 1) = mostOf a1 a2 + 1 := by unfold wrap64; omega
  have hA := hid_of a1 a2 _ cx0 (by omega)
  have hB := hid_of a1 a2 (mostOf a1 a2 - ar a0 (mostOf a1 a2 + 1)) (by omega) (by omega)
  have key : ∀ j, dioramalaw23_NoiseShapes.f j a0 a1 a2 = (noise_Weights.f (ar a0 (mostOf a1 a2 + 1)) (mostOf a1 a2) (costOf a2)).bind fun bt207 => ((noise_Weights.f (wrap64 (mostOf a1 a2 - ar a0 (mostOf a1 a2 + 1))) (mostOf a1 a2) (costOf a2)).bind fun bt211 => (if bt207.2 = 0 then (if bt211.2 = 0 then (if (bt207.1.length : Int) = (mostOf a1 a2 + 1) then (if (bt211.1.length : Int) = (mostOf a1 a2 + 1) then ((dioramaref23_Sum.f j bt207.1).bind fun t215 => (if 0 ≤ (IntKind.u64.wrap (costOf a2)) then (if 0 ≤ (IntKind.u64.wrap (wrap64 (costOf a2 * mostOf a1 a2))) then (dioramalaw23_NoiseShapes.j0 j (mostOf a1 a2) (ar a0 (mostOf a1 a2 + 1)) bt207.1 bt211.1 (t215 != (shl .i64 (wrap64 ((shl .i64 1 (IntKind.u64.wrap (costOf a2))) + 1)) (IntKind.u64.wrap (wrap64 (costOf a2 * mostOf a1 a2)))))) else (none)) else (none))) else (dioramalaw23_NoiseShapes.j0 j (mostOf a1 a2) (ar a0 (mostOf a1 a2 + 1)) bt207.1 bt211.1 true)) else (dioramalaw23_NoiseShapes.j0 j (mostOf a1 a2) (ar a0 (mostOf a1 a2 + 1)) bt207.1 bt211.1 true)) else (dioramalaw23_NoiseShapes.j0 j (mostOf a1 a2) (ar a0 (mostOf a1 a2 + 1)) bt207.1 bt211.1 true)) else (dioramalaw23_NoiseShapes.j0 j (mostOf a1 a2) (ar a0 (mostOf a1 a2 + 1)) bt207.1 bt211.1 true))) := by
    intro j
    unfold dioramalaw23_NoiseShapes.f
    rw [hiding_f b1 b2]
    simp only [Option.bind_some]
    rw [ew, around_f b0]
    simp only [Option.bind_some]
  generalize mostOf a1 a2 = m at *
  generalize costOf a2 = k at *
  generalize ar a0 (m + 1) = c at *
  clear b0 b1 b2 h0 h1 h2 hM
  have ec : wrap64 (m - c) = m - c := by unfold wrap64; omega
  have a0' : 0 ≤ k * m := Int.mul_nonneg (by omega) (by omega)
  have e1 : k * (m + 1) = k * m + k := by rw [Int.mul_add, Int.mul_one]
  have ekm : wrap64 (k * m) = k * m := by unfold wrap64; omega
  have u1 : 0 ≤ IntKind.u64.wrap k := by simp only [IntKind.wrap_u64]; omega
  have u2 : 0 ≤ IntKind.u64.wrap (k * m) := by simp only [IntKind.wrap_u64]; omega
  have pk : 1 ≤ (2 : Int) ^ k.toNat ∧ (2 : Int) ^ k.toNat ≤ 274877906944 := pow_bd k.toNat (by omega)
  have s1 : shl .i64 1 (IntKind.u64.wrap k) = 2 ^ k.toNat := shl_c 1 k _ (by omega) (by omega) (by omega) (by omega) (by omega)
  have s2 : wrap64 ((2 : Int) ^ k.toNat + 1) = 2 ^ k.toNat + 1 := by generalize (2 : Int) ^ k.toNat = z at *; unfold wrap64; omega
  have sb := all_bd hA
  have p0 : 0 ≤ P k (m + 1) + P k m := by
    have := (P_bd (k := k) (e := m + 1) (by omega) km).1
    have := (P_bd (k := k) (e := m) a0' (by omega)).1
    omega
  have s3 : shl .i64 (2 ^ k.toNat + 1) (IntKind.u64.wrap (k * m)) = P k (m + 1) + P k m := by
    refine shl_c _ _ _ a0' (by omega) ?_ p0 sb
    rw [Int.add_mul, Int.one_mul]
    unfold P
    rw [e1, Int.toNat_add a0' (by omega), Int.pow_add, Int.mul_comm]
  have le : ((m + 1).toNat : Int) = m + 1 := by omega
  refine (Ev.congr (f := fun j => (dioramaref23_Sum.f j (wts c m k (m + 1).toNat)).bind fun t => dioramalaw23_NoiseShapes.j0 j m c (wts c m k (m + 1).toNat) (wts (m - c) m k (m + 1).toNat) (t != (P k (m + 1) + P k m))) (fun j => ?_) ?_).rounds
  · rw [key j]
    unfold noise_Weights.f
    simp only [ec, if_pos hA, if_pos hB, Option.bind_some, if_true, wts_length, if_pos le, ekm, if_pos u1, if_pos u2, s1, s2, s3]
  · refine Ev.bind (g := fun j => dioramaref23_Sum.f j (wts c m k (m + 1).toNat)) (sum_l0 hA (m + 1).toNat 0 (by omega)) ?_
    rw [bne_self_eq_false]
    refine Ev.step (f := fun j => dioramalaw23_NoiseShapes.l0 j m c (wts c m k (m + 1).toNat) (wts (m - c) m k (m + 1).toNat) 0) (fun j => ?_) (shapes_l0 hA hB (m + 1).toNat 0 (by omega))
    simp only [dioramalaw23_NoiseShapes.j0]
    rw [if_neg (by simp)]
end Go.Proofs.Ytkjafjoknipaiaa.Pure
