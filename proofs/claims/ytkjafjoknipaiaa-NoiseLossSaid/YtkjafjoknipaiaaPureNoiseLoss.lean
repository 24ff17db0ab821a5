/- For all pairs of counts and hidings, also ones that are not possible, Loss returns the specified cost or error: the cost times the difference of the counts; so no weight grows by more than 2^cost with one more. No condition. -/
import Derived.Test.YtkjafjoknipaiaaQ7
import Derived.Test.YtkjafjoknipaiaaEv
namespace Go.Proofs.Ytkjafjoknipaiaa.Pure
open Go.RowKit Go.Proofs.Ytkjafjoknipaiaa.Q Go.Proofs.YtkjafjoknipaiaaW.PrintWords Go.Proofs.YtkjafjoknipaiaaW.PrintLast Go.Proofs.YtkjafjoknipaiaaW.PrintMore
set_option linter.unusedVariables false
set_option linter.unusedSimpArgs false

theorem rd_wts (c m k : Int) (n i : Nat) (h : i < n) : rd (wts c m k n) (i : Int) = wt c m k (i : Int) := by
  rw [rd_nat, List.getD_eq_getElem?_getD, List.getElem?_eq_getElem (by rw [wts_length]; exact h)]
  simp [wts]
theorem wrap_q (q : Nat) (h : q ≤ 1000) : wrap64 ((q : Int) + 1) = ((q + 1 : Nat) : Int) := by unfold wrap64; omega
/-- The reference's inner loop: from q doublings on. -/
theorem lossl1 {a b m k : Int} (hA : Hid3 a m k) (hB : Hid3 b m k) (r : Int × Int) (i : Nat) (hi : (i : Int) ≤ m)
    (nxt : Ev (fun j => dioramaref23_Loss.l0 j (wts a m k (m + 1).toNat) (wts b m k (m + 1).toNat) (lossTo a b k (i + 1)) ((i + 1 : Nat) : Int)) r) (d : Nat) :
    ∀ q : Nat, (q : Int) + d = dif a b k (i : Int) →
    Ev (fun j => dioramaref23_Loss.l1 j (wts a m k (m + 1).toNat) (wts b m k (m + 1).toNat) (lossTo a b k i) (i : Int) (mn (wt a m k (i : Int)) (wt b m k (i : Int)) * 2 ^ q) (q : Int)) r := by
  have hi0 : (0 : Int) ≤ i := by omega
  have m2 := hA.m2
  have hn : i < (m + 1).toNat := by omega
  have ra := rd_wts a m k _ i hn
  have rb := rd_wts b m k _ i hn
  have la := wts_length a m k (m + 1).toNat
  have lb := wts_length b m k (m + 1).toNat
  have ⟨d0, d1⟩ := dif_bd hA hB hi0 hi
  have en : wrap64 ((i : Int) + 1) = ((i + 1 : Nat) : Int) := by unfold wrap64; omega
  have c1 : (i : Int) < ((wts a m k (m + 1).toNat).length : Int) := Int.ofNat_lt.mpr (by rw [la]; exact hn)
  have c2 : (i : Int) < ((wts b m k (m + 1).toNat).length : Int) := Int.ofNat_lt.mpr (by rw [lb]; exact hn)
  have nt := need_test hA hB hi0 hi
  have wa := wt_bd hA hi0 hi
  have wb := wt_bd hB hi0 hi
  have hmn : 1 ≤ mn (wt a m k i) (wt b m k i) := by unfold mn; split <;> omega
  have hmx : mx (wt a m k i) (wt b m k i) ≤ 274877906944 := by unfold mx; split <;> omega
  have mm := mx_mn hA hB hi0 hi
  have small : ∀ q : Nat, (q : Int) ≤ dif a b k i → wrap64 (mn (wt a m k i) (wt b m k i) * 2 ^ q) = mn (wt a m k i) (wt b m k i) * 2 ^ q := by
    intro q hq
    have h1 : mn (wt a m k i) (wt b m k i) * 2 ^ q ≤ 274877906944 := by
      refine Int.le_trans ?_ hmx
      rw [mm]
      refine Int.mul_le_mul_of_nonneg_left ?_ (by omega)
      rw [← pow_cast, ← pow_cast]
      exact Int.ofNat_le.mpr (Nat.pow_le_pow_right (by omega) (by omega))
    have h0 : 0 ≤ mn (wt a m k i) (wt b m k i) * 2 ^ q := Int.mul_nonneg (by omega) (by have := pow_bd q (by omega); omega)
    unfold wrap64; omega
  generalize hu : mn (wt a m k i) (wt b m k i) = u at *
  generalize hv : mx (wt a m k i) (wt b m k i) = v at *
  induction d with
  | zero =>
    intro q hq
    refine Ev.step (f := fun j => dioramaref23_Loss.l0 j (wts a m k (m + 1).toNat) (wts b m k (m + 1).toNat) (lossTo a b k (i + 1)) ((i + 1 : Nat) : Int)) (fun j => ?_) nxt
    have t := nt q (by omega)
    rw [small q (by omega)] at t
    have tn : ¬ (u * 2 ^ q < v) := by
      intro h
      rw [decide_eq_true h] at t
      have := of_decide_eq_true t.symm
      omega
    simp only [dioramaref23_Loss.l1]
    rw [if_pos hi0, if_pos c1, if_pos c2, ra, rb, hv, if_neg tn, en]
    have e : (q : Int) = dif a b k (i : Int) := by omega
    rw [e]
    rfl
  | succ d ih =>
    intro q hq
    refine Ev.step (fun j => ?_) (ih (q + 1) (by omega))
    have t := nt q (by omega)
    rw [small q (by omega)] at t
    have ty : u * 2 ^ q < v := by
      have : (q : Int) < dif a b k (i : Int) := by omega
      rw [decide_eq_true this] at t
      exact of_decide_eq_true t
    simp only [dioramaref23_Loss.l1]
    rw [if_pos hi0, if_pos c1, if_pos c2, ra, rb, hv, if_pos ty]
    have e1 : wrap64 (u * 2 ^ q * 2) = u * 2 ^ (q + 1) := by
      have := small (q + 1) (by omega)
      rw [Int.pow_succ, ← Int.mul_assoc] at this ⊢
      exact this
    have e2 : wrap64 ((q : Int) + 1) = ((q + 1 : Nat) : Int) := wrap_q q (by omega)
    rw [e1, e2]

theorem lossl0 {a b m k : Int} (hA : Hid3 a m k) (hB : Hid3 b m k) (d : Nat) : ∀ i : Nat, i + d = (m + 1).toNat →
    Ev (fun j => dioramaref23_Loss.l0 j (wts a m k (m + 1).toNat) (wts b m k (m + 1).toNat) (lossTo a b k i) (i : Int)) (k * far a b, 0) := by
  have m1 := hA.m1; have m2 := hA.m2; have a2 := hA.c2
  have la := wts_length a m k (m + 1).toNat
  have lb := wts_length b m k (m + 1).toNat
  induction d with
  | zero =>
    intro i hi
    have hl := (loss_bd hA hB i (by omega)).2.2 (by omega)
    refine Ev.step (f := fun _ => some (k * far a b, 0)) (fun j => ?_) (Ev.now _)
    simp only [dioramaref23_Loss.l0]
    rw [if_neg (fun h => by have := Int.ofNat_lt.mp h; rw [la] at this; omega), hl]
  | succ d ih =>
    intro i hi
    have hn : i < (m + 1).toNat := by omega
    have ra := rd_wts a m k _ i hn
    have rb := rd_wts b m k _ i hn
    have ⟨d0, d1⟩ := dif_bd hA hB (x := (i : Int)) (by omega) (by omega)
    have h1 := lossl1 hA hB _ i (by omega) (ih (i + 1) (by omega)) (dif a b k i).toNat 0 (by omega)
    rw [Int.pow_zero, Int.mul_one] at h1
    refine Ev.step (fun j => ?_) h1
    simp only [dioramaref23_Loss.l0]
    rw [if_pos (Int.ofNat_lt.mpr (by rw [la]; exact hn)), if_pos (by omega), if_pos (Int.ofNat_lt.mpr (by rw [lb]; exact hn)), ra, rb]
    rfl
theorem lossj0_no (x y : List Int) : Ev (fun j => dioramaref23_Loss.j0 j x y true) (0, 5) := by
  refine Ev.step (f := fun _ => some (0, 5)) (fun j => ?_) (Ev.now _)
  simp only [dioramaref23_Loss.j0]; rw [if_pos trivial]
theorem refl_ev (a b m k : Int) : Ev (fun j => dioramaref23_Loss.f j a b m k) (if Hid3 a m k ∧ Hid3 b m k then (k * far a b, 0) else (0, 5)) := by
  refine Ev.congr (f := fun j => (dioramaref23_Weights.f j a m k).bind fun x => (dioramaref23_Weights.f j b m k).bind fun y => if x.2 = 0 then dioramaref23_Loss.j0 j x.1 y.1 (y.2 != 0) else dioramaref23_Loss.j0 j x.1 y.1 true) (fun j => rfl) ?_
  refine Ev.bind (refw_ev a m k) (Ev.bind (refw_ev b m k) ?_)
  by_cases hA : Hid3 a m k
  · by_cases hB : Hid3 b m k
    · simp only [if_pos hA, if_pos hB, if_pos (show Hid3 a m k ∧ Hid3 b m k from ⟨hA, hB⟩)]
      rw [show ((0 : Int) != 0) = false from rfl]
      simp only [if_true]
      refine Ev.step (f := fun j => dioramaref23_Loss.l0 j (wts a m k (m + 1).toNat) (wts b m k (m + 1).toNat) 0 0) (fun j => ?_) (lossl0 hA hB (m + 1).toNat 0 (by omega))
      simp only [dioramaref23_Loss.j0]; rw [if_neg (by simp)]
    · simp only [if_pos hA, if_neg hB, if_neg (show ¬ (Hid3 a m k ∧ Hid3 b m k) from fun h => hB h.2)]
      rw [show ((5 : Int) != 0) = true from rfl]
      simp only [if_true]
      exact lossj0_no _ _
  · simp only [if_neg hA, if_neg (show ¬ (Hid3 a m k ∧ Hid3 b m k) from fun h => hA h.1)]
    simp only [if_neg (show ¬ ((5 : Int) = 0) by omega)]
    exact lossj0_no _ _

theorem step_le {a b m k x : Int} (hA : Hid3 a m k) (hB : Hid3 b m k) (h0 : 0 ≤ x) (h1 : x ≤ m) (hab : b = a ∨ b = a + 1) : wt a m k x ≤ wt b m k x * 2 ^ k.toNat ∧ wt b m k x ≤ wt a m k x * 2 ^ k.toNat := by
  have wa := wt_bd hA h0 h1
  have wb := wt_bd hB h0 h1
  have k1 := hA.k1; have k2 := hA.k2
  have pk := pow_bd k.toNat (by omega)
  have ga : wt a m k x ≤ wt a m k x * 2 ^ k.toNat := by
    have := Int.mul_le_mul_of_nonneg_left pk.1 (show 0 ≤ wt a m k x by omega)
    omega
  have gb : wt b m k x ≤ wt b m k x * 2 ^ k.toNat := by
    have := Int.mul_le_mul_of_nonneg_left pk.1 (show 0 ≤ wt b m k x by omega)
    omega
  rcases hab with rfl | rfl
  · exact ⟨ga, ga⟩
  · by_cases hx : x ≤ a
    · have r := wt_rel hB hA h0 h1 1 (by omega) (by unfold far; (repeat' split) <;> omega)
      rw [Int.mul_one] at r
      constructor
      · omega
      · omega
    · have r := wt_rel hA hB h0 h1 1 (by omega) (by unfold far; (repeat' split) <;> omega)
      rw [Int.mul_one] at r
      constructor
      · omega
      · omega

theorem shl_c (v k : Int) (h0 : 1 ≤ v) (h1 : v ≤ 274877906944) (k1 : 1 ≤ k) (k2 : k ≤ 12) : shl .i64 v (IntKind.u64.wrap k) = v * 2 ^ k.toNat := by
  have e : IntKind.u64.wrap k = k := by
    simp only [IntKind.wrap_u64]
    omega
  have pk : (2 : Int) ^ k.toNat ≤ 4096 := by
    have h2 : (2 : Nat) ^ k.toNat ≤ 2 ^ 12 := Nat.pow_le_pow_right (by omega) (by omega)
    rw [← pow_cast]
    exact Int.ofNat_le.mpr h2
  have p0 : (1 : Int) ≤ 2 ^ k.toNat := (pow_bd k.toNat (by omega)).1
  have b0 : 0 ≤ v * 2 ^ k.toNat := Int.mul_nonneg (by omega) (by omega)
  have b1 : v * 2 ^ k.toNat ≤ 274877906944 * 4096 := Int.mul_le_mul h1 pk (by omega) (by omega)
  unfold shl
  rw [e, show min k.toNat IntKind.i64.bits = k.toNat from Nat.min_eq_left (by show k.toNat ≤ 64; omega)]
  rw [i64_w]
  generalize v * 2 ^ k.toNat = z at *
  unfold wrap64; omega
theorem l1_ev {a b m k : Int} (hA : Hid3 a m k) (hB : Hid3 b m k) (hab : b = a ∨ b = a + 1) (d : Nat) : ∀ i : Nat, i + d = (m + 1).toNat →
    Ev (fun j => dioramalaw23_NoiseLoss.l1 j k (wts a m k (m + 1).toNat) (wts b m k (m + 1).toNat) (i : Int)) true := by
  have m1 := hA.m1; have m2 := hA.m2; have k1 := hA.k1; have k2 := hA.k2
  have la := wts_length a m k (m + 1).toNat
  have lb := wts_length b m k (m + 1).toNat
  have kw : 0 ≤ IntKind.u64.wrap k := by simp only [IntKind.wrap_u64]; omega
  induction d with
  | zero =>
    intro i hi
    refine Ev.step (f := fun j => (dioramalaw23_lives.f j).bind fun t => some t) (fun j => ?_) (Ev.bind lives_ev (Ev.now _))
    simp only [dioramalaw23_NoiseLoss.l1]
    rw [if_neg (fun h => by have := Int.ofNat_lt.mp h; rw [la] at this; omega)]
  | succ d ih =>
    intro i hi
    have hn : i < (m + 1).toNat := by omega
    have hi0 : (0 : Int) ≤ i := by omega
    have him : (i : Int) ≤ m := by omega
    have wa := wt_bd hA hi0 him
    have wb := wt_bd hB hi0 him
    have ⟨s1, s2⟩ := step_le hA hB hi0 him hab
    refine Ev.step (fun j => ?_) (ih (i + 1) (by omega))
    simp only [dioramalaw23_NoiseLoss.l1]
    rw [if_pos (Int.ofNat_lt.mpr (by rw [la]; exact hn)), if_pos hi0, if_pos (Int.ofNat_lt.mpr (by rw [lb]; exact hn)), if_pos kw, rd_wts a m k _ i hn, rd_wts b m k _ i hn,
      shl_c _ k wb.1 wb.2 k1 k2, shl_c _ k wa.1 wa.2 k1 k2, if_neg (Int.not_lt.mpr s1), if_neg (Int.not_lt.mpr s2), wrap_q i (by omega)]
theorem loop_ev (x y m k : Int) (hA : Hid3 x m k) (hY : Hid3 y m k) (xs : List S35) (hx : xs.length ≤ 1000) (d : Nat) : ∀ i : Nat, i + d = xs.length → Ev (fun j => dioramalaw23_NoiseLoss.l0 j m k x y xs (i : Int)) true := by
  have m1 := hA.m1; have m2 := hA.m2; have k1 := hA.k1; have k2 := hA.k2; have c1 := hA.c1; have c2 := hA.c2; have d1 := hY.c1; have d2 := hY.c2
  induction d with
  | zero =>
    intro i hi
    have e0 : mn (wrap64 (x + 1)) m = x ∨ mn (wrap64 (x + 1)) m = x + 1 := by
      have : wrap64 (x + 1) = x + 1 := by unfold wrap64; omega
      rw [this]; unfold mn; split <;> omega
    have e1 : 0 ≤ mn (wrap64 (x + 1)) m ∧ mn (wrap64 (x + 1)) m ≤ m := by
      have : wrap64 (x + 1) = x + 1 := by unfold wrap64; omega
      rw [this]; unfold mn; split <;> omega
    have hB : Hid3 (mn (wrap64 (x + 1)) m) m k := ⟨m1, m2, k1, k2, hA.km, e1.1, e1.2⟩
    have em : wrap64 (k * (mx (wrap64 (x - y)) (wrap64 (y - x)))) = k * far x y := by
      have a1 : wrap64 (x - y) = x - y := by unfold wrap64; omega
      have a2 : wrap64 (y - x) = y - x := by unfold wrap64; omega
      have a3 : mx (x - y) (y - x) = far x y := by unfold mx far; (repeat' split) <;> omega
      have f1 := far_bd hA d1 d2
      have b0 : 0 ≤ k * far x y := Int.mul_nonneg (by omega) f1.1
      have b1 : k * far x y ≤ 12 * 37 := Int.mul_le_mul k2 (by omega) f1.1 (by omega)
      rw [a1, a2, a3]
      generalize k * far x y = z at *
      unfold wrap64; omega
    generalize hw : mn (wrap64 (x + 1)) m = x' at *
    refine Ev.step (f := fun j => dioramalaw23_NoiseLoss.j1 j k (wts x m k (m + 1).toNat) (wts x' m k (m + 1).toNat) false) (fun j => ?_) ?_
    · simp only [dioramalaw23_NoiseLoss.l0]
      rw [if_neg (by omega), hw, em]
      unfold noise_Loss.f noise_Weights.f
      simp only [if_pos (show Hid3 x m k ∧ Hid3 y m k from ⟨hA, hY⟩), if_pos hA, if_pos hB, Option.bind_some, if_true, wts_length]
      rw [show (((m + 1).toNat : Int) != ((m + 1).toNat : Int)) = false from bne_self_eq_false _]
    · refine Ev.step (f := fun j => dioramalaw23_NoiseLoss.l1 j k (wts x m k (m + 1).toNat) (wts x' m k (m + 1).toNat) 0) (fun j => ?_) (l1_ev hA hB e0 (m + 1).toNat 0 (by omega))
      simp only [dioramalaw23_NoiseLoss.j1]
      rw [if_neg (by simp)]
  | succ d ih =>
    intro i hi
    generalize ha : (rd_T35 xs (i : Int)).f0 = a
    generalize hb : (rd_T35 xs (i : Int)).f1 = b
    generalize hm : (rd_T35 xs (i : Int)).f2 = u
    generalize hk : (rd_T35 xs (i : Int)).f3 = q
    refine Ev.step (f := fun j => (dioramaref23_Loss.f j a b u q).bind fun z => if (if Hid3 a u q ∧ Hid3 b u q then (q * far a b, (0 : Int)) else (0, 5)).1 = z.1 then (if (if Hid3 a u q ∧ Hid3 b u q then (q * far a b, (0 : Int)) else (0, 5)).2 = z.2 then dioramalaw23_NoiseLoss.l0 j m k x y xs (wrap64 ((i : Int) + 1)) else some false) else some false) (fun j => ?_) ?_
    · simp only [dioramalaw23_NoiseLoss.l0]
      rw [if_pos (by omega), if_pos (by omega), ha, hb, hm, hk]
      rfl
    · refine Ev.bind (refl_ev a b u q) ?_
      simp only [if_true]
      rw [wrap_q i (by omega)]
      exact ih (i + 1) (by omega)
theorem NoiseLoss : dioramalaw23_NoiseLoss.Pure := by
  intro a0 a1 a2 a3 h0 h1 h2 h3
  have b0 := wf_bd h0
  have b1 := wf_bd h1
  have b2 := wf_bd h2
  have b3 := wf_bd h3
  have cx0 := ar_nonneg a0 (mostOf a2 a3 + 1)
  have cy0 := ar_nonneg a1 (mostOf a2 a3 + 1)
  have hM := hid_of a2 a3 0 (by omega) (by unfold mostOf; have := ar_nonneg a2 (hidTop (ar a3 6)); omega)
  have m1 := hM.m1
  have m2 := hM.m2
  have cx1 := ar_lt a0 (mostOf a2 a3 + 1) (by omega)
  have cy1 := ar_lt a1 (mostOf a2 a3 + 1) (by omega)
  have ew : wrap64 (mostOf a2 a3 + 1) = mostOf a2 a3 + 1 := by unfold wrap64; omega
  have hA := hid_of a2 a3 _ cx0 (by omega)
  have hY := hid_of a2 a3 _ cy0 (by omega)
  have key : ∃ xs : List S35, xs.length ≤ 1000 ∧ ∀ j, dioramalaw23_NoiseLoss.f j a0 a1 a2 a3 = dioramalaw23_NoiseLoss.l0 j (mostOf a2 a3) (costOf a3) (ar a0 (mostOf a2 a3 + 1)) (ar a1 (mostOf a2 a3 + 1)) xs 0 := by
    refine ⟨[⟨ar a0 (mostOf a2 a3 + 1), ar a1 (mostOf a2 a3 + 1), mostOf a2 a3, costOf a3⟩, ⟨a0, a1, a2, a3⟩, ⟨ar a0 (mostOf a2 a3 + 1), mostOf a2 a3 + 1, mostOf a2 a3, costOf a3⟩, ⟨-1, ar a1 (mostOf a2 a3 + 1), mostOf a2 a3, costOf a3⟩, ⟨ar a0 (mostOf a2 a3 + 1), ar a1 (mostOf a2 a3 + 1), mostOf a2 a3, 39⟩], by simp, fun j => ?_⟩
    · unfold dioramalaw23_NoiseLoss.f
      rw [hiding_f b2 b3]
      simp only [Option.bind_some]
      rw [ew, around_f b0, around_f b1]
      simp only [Option.bind_some]
  obtain ⟨xs, hx, hf⟩ := key
  exact (Ev.congr hf (loop_ev _ _ _ _ hA hY xs hx xs.length 0 (by omega))).rounds
end Go.Proofs.Ytkjafjoknipaiaa.Pure
