/- The calls of noise.Weights and noise.Loss give the plain functions of Hand1: for every argument. -/
import Derived.Test.YtkjafjoknipaiaaHand2
import Derived.RegionTactic
import Derived.ChangeAlike
namespace Go.Proofs.Ytkjafjoknipaiaa.Q
open Go.RowKit Go.Proofs.YtkjafjoknipaiaaW.PrintWords Go.Proofs.YtkjafjoknipaiaaW.PrintLast Go.Proofs.YtkjafjoknipaiaaW.PrintMore
set_option linter.unusedVariables false
set_option linter.unusedSimpArgs false
attribute [local go_sem] max2_int min2_int max_two min_two max_three min_three max_four min_four

def dif (a b k x : Int) : Int := if far a x < far b x then k * (far b x - far a x) else k * (far a x - far b x)
def lossTo (a b k : Int) : Nat → Int
  | 0 => 0
  | j + 1 => if lossTo a b k j < dif a b k (j : Int) then dif a b k (j : Int) else lossTo a b k j
def wcond (m x : Int) (k : Int) : Int := if x = 0 ∨ x = m then 2 ^ k.toNat else 2 ^ k.toNat - 1
theorem wt_split (c m k x : Int) : wt c m k x = 2 ^ (k * (m - far c x)).toNat * wcond m x k := by
  unfold wt wcond; split <;> rfl
theorem wt_rel {a b m k x : Int} (hA : Hid3 a m k) (hB : Hid3 b m k) (h0 : 0 ≤ x) (h1 : x ≤ m) (d : Int) (hd : 0 ≤ d) (he : far a x = far b x + d) :
    wt b m k x = wt a m k x * 2 ^ (k * d).toNat := by
  rw [wt_split, wt_split]
  have ⟨e0, _⟩ := exp_bd hA h0 h1
  have k1 := hA.k1
  have k0 : 0 ≤ k * d := Int.mul_nonneg (by omega) hd
  have e : (k * (m - far b x)).toNat = (k * (m - far a x)).toNat + (k * d).toNat := by
    have : k * (m - far b x) = k * (m - far a x) + k * d := by rw [← Int.mul_add, he]; congr 1; omega
    omega
  rw [e, Int.pow_add]
  rw [Int.mul_assoc, Int.mul_assoc, Int.mul_comm (wcond m x k)]
theorem dif_bd {a b m k x : Int} (hA : Hid3 a m k) (hB : Hid3 b m k) (h0 : 0 ≤ x) (h1 : x ≤ m) : 0 ≤ dif a b k x ∧ dif a b k x ≤ 38 := by
  have ⟨a0, _⟩ := exp_bd hA h0 h1
  have ⟨b0, _⟩ := exp_bd hB h0 h1
  have ⟨f0, f1⟩ := far_bd hA h0 h1
  have ⟨g0, g1⟩ := far_bd hB h0 h1
  have k1 := hA.k1
  have km := hA.km
  rw [Int.mul_add, Int.mul_one] at km
  have p1 : k * (far b x - far a x) ≤ k * m := Int.mul_le_mul_of_nonneg_left (by omega) (by omega)
  have p2 : k * (far a x - far b x) ≤ k * m := Int.mul_le_mul_of_nonneg_left (by omega) (by omega)
  unfold dif
  split
  · exact ⟨Int.mul_nonneg (by omega) (by omega), by omega⟩
  · exact ⟨Int.mul_nonneg (by omega) (by omega), by omega⟩
/-- The greater one is the smaller one times a power of 2. -/
theorem mx_mn {a b m k x : Int} (hA : Hid3 a m k) (hB : Hid3 b m k) (h0 : 0 ≤ x) (h1 : x ≤ m) :
    mx (wt a m k x) (wt b m k x) = mn (wt a m k x) (wt b m k x) * 2 ^ (dif a b k x).toNat := by
  have k1 := hA.k1
  have wa := wt_bd hA h0 h1
  have wb := wt_bd hB h0 h1
  have ⟨d0, d1⟩ := dif_bd hA hB h0 h1
  have pp := pow_bd (dif a b k x).toNat (by omega)
  unfold dif at *
  by_cases h : far a x < far b x
  · rw [if_pos h] at pp ⊢
    have r := wt_rel hB hA h0 h1 (far b x - far a x) (by omega) (by omega)
    have ge : wt b m k x ≤ wt a m k x := by
      rw [r]
      have := Int.mul_le_mul_of_nonneg_left pp.1 (show 0 ≤ wt b m k x by omega)
      rw [Int.mul_one] at this; exact this
    have e1 : mx (wt a m k x) (wt b m k x) = wt a m k x := by unfold mx; rw [if_neg (by omega)]
    have e2 : mn (wt a m k x) (wt b m k x) = wt b m k x := by unfold mn; split <;> omega
    rw [e1, e2]; exact r
  · rw [if_neg h] at pp ⊢
    have r := wt_rel hA hB h0 h1 (far a x - far b x) (by omega) (by omega)
    have ge : wt a m k x ≤ wt b m k x := by
      rw [r]
      have := Int.mul_le_mul_of_nonneg_left pp.1 (show 0 ≤ wt a m k x by omega)
      rw [Int.mul_one] at this; exact this
    have e1 : mx (wt a m k x) (wt b m k x) = wt b m k x := by unfold mx; split <;> omega
    have e2 : mn (wt a m k x) (wt b m k x) = wt a m k x := by unfold mn; rw [if_neg (by omega)]
    rw [e1, e2]; exact r
theorem need_test {a b m k x : Int} (hA : Hid3 a m k) (hB : Hid3 b m k) (h0 : 0 ≤ x) (h1 : x ≤ m) (q : Nat) (hq : (q : Int) ≤ dif a b k x) :
    decide (wrap64 (mn (wt a m k x) (wt b m k x) * 2 ^ q) < mx (wt a m k x) (wt b m k x)) = decide ((q : Int) < dif a b k x) := by
  have ⟨d0, d1⟩ := dif_bd hA hB h0 h1
  have wa := wt_bd hA h0 h1
  have wb := wt_bd hB h0 h1
  have hm : 1 ≤ mn (wt a m k x) (wt b m k x) := by unfold mn; split <;> omega
  have hM : mx (wt a m k x) (wt b m k x) ≤ 274877906944 := by unfold mx; split <;> omega
  rw [mx_mn hA hB h0 h1] at hM ⊢
  generalize mn (wt a m k x) (wt b m k x) = u at *
  generalize hD : dif a b k x = D at *
  obtain ⟨n, rfl⟩ : ∃ n : Nat, D = n := ⟨D.toNat, by omega⟩
  rw [Int.toNat_natCast] at hM ⊢
  have pq := pow_bd q (by omega)
  obtain ⟨z, rfl⟩ : ∃ z, n = q + z := ⟨n - q, by omega⟩
  have pz := pow_bd z (by omega)
  have e : u * 2 ^ (q + z) = u * 2 ^ q * 2 ^ z := by rw [Int.pow_add, Int.mul_assoc]
  rw [e] at hM ⊢
  have uq : 1 ≤ u * 2 ^ q := by
    have := Int.mul_le_mul_of_nonneg_left pq.1 (show 0 ≤ u by omega)
    omega
  have uz := Int.mul_le_mul_of_nonneg_left pz.1 (show 0 ≤ u * 2 ^ q by omega)
  have w : wrap64 (u * 2 ^ q) = u * 2 ^ q := by unfold wrap64; omega
  rw [w, decide_eq_decide]
  constructor
  · intro h
    have : z ≠ 0 := by rintro rfl; simp at h
    omega
  · intro h
    have z1 : (2 : Int) ≤ 2 ^ z := by
      have h4 : (2 : Nat) ^ 1 ≤ 2 ^ z := Nat.pow_le_pow_right (by omega) (by omega)
      rw [← pow_cast]; omega
    have := Int.mul_le_mul_of_nonneg_left z1 (show 0 ≤ u * 2 ^ q by omega)
    omega
theorem loss_bd {a b m k : Int} (hA : Hid3 a m k) (hB : Hid3 b m k) : ∀ j : Nat, (j : Int) ≤ m + 1 → 0 ≤ lossTo a b k j ∧ lossTo a b k j ≤ k * far a b ∧ (a < j → lossTo a b k j = k * far a b) := by
  have k1 := hA.k1
  have a1 := hA.c1; have a2 := hA.c2; have b1 := hB.c1; have b2 := hB.c2
  have f0 : 0 ≤ far a b := (far_bd hA b1 b2).1
  intro j
  induction j with
  | zero => intro _; exact ⟨Int.le_refl _, Int.mul_nonneg (by omega) f0, fun h => by omega⟩
  | succ j ih =>
    intro hj
    obtain ⟨i0, i1, i2⟩ := ih (by omega)
    have ⟨d0, _⟩ := dif_bd hA hB (x := (j : Int)) (by omega) (by omega)
    have d1 : dif a b k (j : Int) ≤ k * far a b := by
      unfold dif
      split
      · exact Int.mul_le_mul_of_nonneg_left (by unfold far; (repeat' split) <;> omega) (by omega)
      · exact Int.mul_le_mul_of_nonneg_left (by unfold far; (repeat' split) <;> omega) (by omega)
    have d2 : a = j → dif a b k (j : Int) = k * far a b := by
      intro e
      have e1 : far b (j : Int) - far a (j : Int) = far a b := by unfold far; (repeat' split) <;> omega
      have e3 : far a (j : Int) = 0 := by unfold far; (repeat' split) <;> omega
      unfold dif
      split
      · rw [e1]
      · have e2 : far a (j : Int) - far b (j : Int) = far a b := by omega
        rw [e2]
    simp only [lossTo]
    split
    · exact ⟨d0, d1, fun h => by by_cases e : a = j
                                 · exact d2 e
                                 · have := i2 (by omega); omega⟩
    · exact ⟨i0, i1, fun h => by by_cases e : a = j
                                 · have := d2 e; omega
                                 · exact i2 (by omega)⟩

set_option maxRecDepth 100000 in
set_option maxHeartbeats 2000000 in
theorem Loss_yes (a b m k : Int) (hA : Hid3 a m k) (hB : Hid3 b m k) (w : World) :
    Calls Try.prog 13 #[.int .i64 a, .int .i64 b, .int .i64 m, .int .i64 k] w fun e w' => e = .returned (.tuple #[.int .i64 (k * far a b), .int .i64 0]) ∧ Below w.heap.size w w' := by
  have hva := valid_f a m k
  rw [decide_eq_true hA] at hva
  have hvb := valid_f b m k
  rw [decide_eq_true hB] at hvb
  have HVA := Aside0.mk hva
  have HVB := Aside0.mk hvb
  clear hva hvb
  go_enter Try.func13, Try.ntmps13
  go_wp2_with fail
  have hA0 : HidAt ((w.alloc (.cells #[.int .i64 a, .int .i64 m, .int .i64 k] 43)).alloc (.cells #[.int .i64 b, .int .i64 m, .int .i64 k] 43)) w.heap.size a m k := (HidAt.new w a m k).kept (World.grownBy_alloc _ _ none) (by simp)
  have hB0 : HidAt ((w.alloc (.cells #[.int .i64 a, .int .i64 m, .int .i64 k] 43)).alloc (.cells #[.int .i64 b, .int .i64 m, .int .i64 k] 43)) (w.heap.size + 1) b m k := by
    have := HidAt.new (w.alloc (.cells #[.int .i64 a, .int .i64 m, .int .i64 k] 43)) b m k
    rwa [World.size_alloc] at this
  have hb0 : Below w.heap.size w ((w.alloc (.cells #[.int .i64 a, .int .i64 m, .int .i64 k] 43)).alloc (.cells #[.int .i64 b, .int .i64 m, .int .i64 k] 43)) := ((Below.refl _ w).alloc (Nat.le_refl _) _).alloc (by simp) _
  refine (noise_hiding_valid.calls a m k true _ HVA.out).mono ?_
  rintro e w1 ⟨rfl, hb1⟩
  have hA1 := hA0.below hb1
  have hB1 := hB0.below hb1
  have hbb1 := hb0.trans (hb1.mono hb0.size)
  clear hA0 hB0 hb0 hb1
  have a0 := hA1.c0
  have a1 := hA1.c1
  have a2 := hA1.c2
  have b0 := hB1.c0
  have b1 := hB1.c1
  have b2 := hB1.c2
  go_wp2_with fail
  refine (noise_hiding_valid.calls b m k true _ HVB.out).mono ?_
  rintro e w2 ⟨rfl, hb2⟩
  have hA2 := hA1.below hb2
  have hB2 := hB1.below hb2
  have hbb2 := hbb1.trans (hb2.mono hbb1.size)
  clear a0 a1 a2 b0 b1 b2 hA1 hB1 hb2 hbb1
  have a0 := hA2.c0
  have a1 := hA2.c1
  have a2 := hA2.c2
  have b0 := hB2.c0
  have b1 := hB2.c1
  have b2 := hB2.c2
  go_wp2_with fail
  go_quiet (fail)
  have hbb3 : Below w.heap.size w (w2.drewN nq) := by repeat (first | exact hbb2 | apply pw_below_drewN)
  clear a0 a1 a2 b0 b1 b2 hA2 hB2 hbb2
  obtain ⟨w3, hw3⟩ : ∃ w3, w2.drewN nq = w3 := ⟨_, rfl⟩
  rw [hw3] at hbb3 ⊢
  clear hw3
  have hm1 := hA.m1
  have hm2 := hA.m2
  go_wp2_with fail
  go_loopw [14, 38] (fun v14 v38 wr => ∃ j : Nat, (j : Int) ≤ m + 1 ∧ v38 = .int .i64 (j : Int) ∧ v14 = .int .i64 (lossTo a b k j) ∧ Below w.heap.size w wr)
    (fun _ v38 _ => (m + 1).toNat - (intOf v38).toNat)
  case atStart => exact ⟨0, by omega, rfl, rfl, hbb3⟩
  case round =>
    obtain ⟨j, hj, rfl, rfl, hbr⟩ := hrel
    have hlb := loss_bd hA hB j hj
    by_cases hlt : (j : Int) < m + 1
    · have hdb := dif_bd hA hB (x := (j : Int)) (by omega) (by omega)
      have HL := Aside0.mk hlb
      clear hlb
      go_wp2_with fail
      obtain ⟨wo, hwo⟩ : ∃ wo : World, wo = wr := ⟨_, rfl⟩
      rw [← hwo] at hbr ⊢
      clear hwo
      go_loopw [16] (fun v16 wi => ∃ q : Nat, (q : Int) ≤ dif a b k (j : Int) ∧ v16 = .int .i64 (q : Int) ∧ Below w.heap.size w wi)
        (fun v16 _ => (dif a b k (j : Int)).toNat - (intOf v16).toNat)
      case atStart => exact ⟨0, hdb.1, rfl, hbr⟩
      case round =>
        obtain ⟨q, hq, rfl, hbi⟩ := hrel
        have NT0 := need_test hA hB (x := (j : Int)) (by omega) (by omega) q hq
        unfold mn mx at NT0
        have NT := Aside0.mk NT0
        clear NT0
        have HU := Aside0.mk (fun W => weight_calls a m k (j : Int) W hA (by omega) (by omega))
        have HV := Aside0.mk (fun W => weight_calls b m k (j : Int) W hB (by omega) (by omega))
        have HBd := Aside0.mk (below_drew1 hbi)
        have q64 : (q : Int) ≤ 64 := by omega
        go_wp2_with fail
        refine start_ (n := 17) (S := fun _ => True) (ds := []) #[false, false, false, false, false, false, false, false, false, false, false, false, false, false, false, false, false] (by kernel_rfl) rfl rfl (trivial) (fun hHeld => ?_)
        refine pure_ (i := 0) (N := (some 41)) (v := ?_) (a' := ?_) #[true, false, false, false, false, false, false, false, false, false, false, false, false, false, false, false, false] rfl rfl (by kernel_rfl) (fun _ _ _ h => h) (Or.inl ⟨by rfl, ?_⟩) ?_ ?_
        rotate_left
        · intro w'
          go_simp
          with_reducible rfl
        rotate_left
        · simp only [Act.put, List.setIfInBounds_toArray, List.set_cons_zero, List.set_cons_succ, i64_w, i32_w]
          rfl
        refine pure_ (i := 1) (N := (some 42)) (v := ?_) (a' := ?_) #[true, true, false, false, false, false, false, false, false, false, false, false, false, false, false, false, false] rfl rfl (by kernel_rfl) (fun _ _ _ h => h) (Or.inl ⟨by rfl, ?_⟩) ?_ ?_
        rotate_left
        · intro w'
          go_simp
          with_reducible rfl
        rotate_left
        · simp only [Act.put, List.setIfInBounds_toArray, List.set_cons_zero, List.set_cons_succ, i64_w, i32_w]
          rfl
        refine pure_ (i := 3) (N := (some 44)) (v := ?_) (a' := ?_) #[true, true, false, true, false, false, false, false, false, false, false, false, false, false, false, false, false] rfl rfl (by kernel_rfl) (fun _ _ _ h => h) (Or.inl ⟨by rfl, ?_⟩) ?_ ?_
        rotate_left
        · intro w'
          go_simp
          with_reducible rfl
        rotate_left
        · simp only [Act.put, List.setIfInBounds_toArray, List.set_cons_zero, List.set_cons_succ, i64_w, i32_w]
          rfl
        refine pure_ (i := 4) (N := (some 45)) (v := ?_) (a' := ?_) #[true, true, false, true, true, false, false, false, false, false, false, false, false, false, false, false, false] rfl rfl (by kernel_rfl) (fun _ _ _ h => h) (Or.inl ⟨by rfl, ?_⟩) ?_ ?_
        rotate_left
        · intro w'
          go_simp
          with_reducible rfl
        rotate_left
        · simp only [Act.put, List.setIfInBounds_toArray, List.set_cons_zero, List.set_cons_succ, i64_w, i32_w]
          rfl
        refine pure_ (i := 7) (N := (some 48)) (v := ?_) (a' := ?_) #[true, true, false, true, true, false, false, true, false, false, false, false, false, false, false, false, false] rfl rfl (by kernel_rfl) (fun _ _ _ h => h) (Or.inl ⟨by rfl, ?_⟩) ?_ ?_
        rotate_left
        · intro w'
          go_simp
          with_reducible rfl
        rotate_left
        · simp only [Act.put, List.setIfInBounds_toArray, List.set_cons_zero, List.set_cons_succ, i64_w, i32_w]
          rfl
        refine pure_ (i := 9) (N := (some 50)) (v := ?_) (a' := ?_) #[true, true, false, true, true, false, false, true, false, true, false, false, false, false, false, false, false] rfl rfl (by kernel_rfl) (fun _ _ _ h => h) (Or.inl ⟨by rfl, ?_⟩) ?_ ?_
        rotate_left
        · intro w'
          go_simp
          with_reducible rfl
        rotate_left
        · simp only [Act.put, List.setIfInBounds_toArray, List.set_cons_zero, List.set_cons_succ, i64_w, i32_w]
          rfl
        refine pure_ (i := 10) (N := (some 51)) (v := ?_) (a' := ?_) #[true, true, false, true, true, false, false, true, false, true, true, false, false, false, false, false, false] rfl rfl (by kernel_rfl) (fun _ _ _ h => h) (Or.inl ⟨by rfl, ?_⟩) ?_ ?_
        rotate_left
        · intro w'
          go_simp
          with_reducible rfl
        rotate_left
        · simp only [Act.put, List.setIfInBounds_toArray, List.set_cons_zero, List.set_cons_succ, i64_w, i32_w]
          rfl
        refine pure_ (i := 12) (N := (some 53)) (v := ?_) (a' := ?_) #[true, true, false, true, true, false, false, true, false, true, true, false, true, false, false, false, false] rfl rfl (by kernel_rfl) (fun _ _ _ h => h) (Or.inl ⟨by rfl, ?_⟩) ?_ ?_
        rotate_left
        · intro w'
          go_simp
          with_reducible rfl
        rotate_left
        · simp only [Act.put, List.setIfInBounds_toArray, List.set_cons_zero, List.set_cons_succ, i64_w, i32_w]
          rfl
        refine pure_ (i := 13) (N := (some 54)) (v := ?_) (a' := ?_) #[true, true, false, true, true, false, false, true, false, true, true, false, true, true, false, false, false] rfl rfl (by kernel_rfl) (fun _ _ _ h => h) (Or.inl ⟨by rfl, ?_⟩) ?_ ?_
        rotate_left
        · intro w'
          go_simp
          with_reducible rfl
        rotate_left
        · simp only [Act.put, List.setIfInBounds_toArray, List.set_cons_zero, List.set_cons_succ, i64_w, i32_w]
          rfl
        refine one_ (i := 2) (N := (some 43)) #[true, true, true, true, true, false, false, true, false, true, true, false, true, true, false, false, false] rfl rfl (by kernel_rfl) (by decide) (fun K hK => ?_)
        refine call_ 20 #[.agg #[.int .i64 a, .int .i64 m, .int .i64 k], .int .i64 (j : Int)] (by rfl) rfl (by go_simp) ?_
        refine (HU.out _).mono ?_
        rintro e w3 ⟨rfl, hb3⟩
        have HB3 := Aside0.mk (below_step HBd.out hb3)
        clear hb3
        refine ⟨_, rfl, ?_⟩
        refine hK.out _ _ trivial (fun hHeld => ?_)
        clear hK K
        refine norm_ (a' := ?_) ?_ ?_
        rotate_left
        · show Act.put _ (some 43) _ = _
          simp only [Act.put, List.setIfInBounds_toArray, List.set_cons_zero, List.set_cons_succ, i64_w, i32_w]
          rfl
        refine one_ (i := 5) (N := (some 46)) #[true, true, true, true, true, true, false, true, false, true, true, false, true, true, false, false, false] rfl rfl (by kernel_rfl) (by decide) (fun K hK => ?_)
        refine call_ 20 #[.agg #[.int .i64 b, .int .i64 m, .int .i64 k], .int .i64 (j : Int)] (by rfl) rfl (by go_simp) ?_
        refine (HV.out _).mono ?_
        rintro e w4 ⟨rfl, hb4⟩
        have HB4 := Aside0.mk (below_step HB3.out hb4)
        clear hb4
        refine ⟨_, rfl, ?_⟩
        refine hK.out _ _ trivial (fun hHeld => ?_)
        clear hK K
        refine norm_ (a' := ?_) ?_ ?_
        rotate_left
        · show Act.put _ (some 46) _ = _
          simp only [Act.put, List.setIfInBounds_toArray, List.set_cons_zero, List.set_cons_succ, i64_w, i32_w]
          rfl
        refine pure_ (i := 6) (N := (some 47)) (v := ?_) (a' := ?_) #[true, true, true, true, true, true, true, true, false, true, true, false, true, true, false, false, false] rfl rfl (by kernel_rfl) (fun _ _ _ h => h) (Or.inl ⟨by rfl, ?_⟩) ?_ ?_
        rotate_left
        · intro w'
          go_simp
          with_reducible rfl
        rotate_left
        · simp only [Act.put, List.setIfInBounds_toArray, List.set_cons_zero, List.set_cons_succ, i64_w, i32_w]
          rfl
        refine pure_ (i := 8) (N := (some 49)) (v := ?_) (a' := ?_) #[true, true, true, true, true, true, true, true, true, true, true, false, true, true, false, false, false] rfl rfl (by kernel_rfl) (fun _ _ _ h => h) (Or.inl ⟨by rfl, ?_⟩) ?_ ?_
        rotate_left
        · intro w'
          go_simp
          with_reducible rfl
        rotate_left
        · simp only [Act.put, List.setIfInBounds_toArray, List.set_cons_zero, List.set_cons_succ, i64_w, i32_w]
          rfl
        refine one_ (i := 11) (N := (some 52)) #[true, true, true, true, true, true, true, true, true, true, true, true, true, true, false, false, false] rfl rfl (by kernel_rfl) (by decide) (fun K hK => ?_)
        refine call_ 20 #[.agg #[.int .i64 a, .int .i64 m, .int .i64 k], .int .i64 (j : Int)] (by rfl) rfl (by go_simp) ?_
        refine (HU.out _).mono ?_
        rintro e w5 ⟨rfl, hb5⟩
        have HB5 := Aside0.mk (below_step HB4.out hb5)
        clear hb5
        refine ⟨_, rfl, ?_⟩
        refine hK.out _ _ trivial (fun hHeld => ?_)
        clear hK K
        refine norm_ (a' := ?_) ?_ ?_
        rotate_left
        · show Act.put _ (some 52) _ = _
          simp only [Act.put, List.setIfInBounds_toArray, List.set_cons_zero, List.set_cons_succ, i64_w, i32_w]
          rfl
        refine one_ (i := 14) (N := (some 55)) #[true, true, true, true, true, true, true, true, true, true, true, true, true, true, true, false, false] rfl rfl (by kernel_rfl) (by decide) (fun K hK => ?_)
        refine call_ 20 #[.agg #[.int .i64 b, .int .i64 m, .int .i64 k], .int .i64 (j : Int)] (by rfl) rfl (by go_simp) ?_
        refine (HV.out _).mono ?_
        rintro e w6 ⟨rfl, hb6⟩
        have HB6 := Aside0.mk (below_step HB5.out hb6)
        clear hb6
        refine ⟨_, rfl, ?_⟩
        refine hK.out _ _ trivial (fun hHeld => ?_)
        clear hK K
        refine norm_ (a' := ?_) ?_ ?_
        rotate_left
        · show Act.put _ (some 55) _ = _
          simp only [Act.put, List.setIfInBounds_toArray, List.set_cons_zero, List.set_cons_succ, i64_w, i32_w]
          rfl
        refine pure_ (i := 15) (N := (some 56)) (v := ?_) (a' := ?_) #[true, true, true, true, true, true, true, true, true, true, true, true, true, true, true, true, false] rfl rfl (by kernel_rfl) (fun _ _ _ h => h) (Or.inl ⟨by rfl, ?_⟩) ?_ ?_
        rotate_left
        · intro w'
          go_simp
          with_reducible rfl
        rotate_left
        · simp only [Act.put, List.setIfInBounds_toArray, List.set_cons_zero, List.set_cons_succ, i64_w, i32_w]
          rfl
        refine pure_ (i := 16) (N := (some 57)) (v := ?_) (a' := ?_) #[true, true, true, true, true, true, true, true, true, true, true, true, true, true, true, true, true] rfl rfl (by kernel_rfl) (fun _ _ _ h => h) (Or.inl ⟨by rfl, ?_⟩) ?_ ?_
        rotate_left
        · intro w'
          go_simp
          with_reducible rfl
        rotate_left
        · simp only [Act.put, List.setIfInBounds_toArray, List.set_cons_zero, List.set_cons_succ, i64_w, i32_w]
          rfl
        refine done_ (by kernel_rfl) ?_

        rw [NT.out]
        clear NT HU HV q64
        have HLb := HB6.out
        clear HB3 HB4 HB5 HB6 HBd hHeld hbi hbr
        by_cases hqd : (q : Int) < dif a b k (j : Int)
        · rw [decide_eq_true hqd]
          go_wp2
          go_roundw
          case rel => exact ⟨q + 1, by omega, by go_num, HLb⟩
          case measure => simp [intOf]; omega
        · rw [decide_eq_false hqd]
          have eq : (q : Int) = dif a b k (j : Int) := by omega
          have EQ := Aside0.mk eq
          clear eq hqd
          go_wp2
          all_goals
            go_roundw
            case rel => exact ⟨j + 1, by omega, by go_num, by first | (simp only [lossTo]; rw [← EQ.out]; done) | (simp only [lossTo]; rw [← EQ.out, if_pos (show lossTo a b k j < (q : Int) by omega)]) | (simp only [lossTo]; rw [← EQ.out, if_neg (show ¬ lossTo a b k j < (q : Int) by omega)]), HLb⟩
            case measure => simp [intOf]; omega
    · go_wp2
      go_ret2
      have ej : (j : Int) = m + 1 := by omega
      have c2 := hA.c2
      exact ⟨by rw [← hlb.2.2 (by omega)]; rfl, hbr⟩

theorem Weights_no (c m k : Int) (hH : ¬ Hid3 c m k) (w : World) :
    Calls Try.prog 7 #[.int .i64 c, .int .i64 m, .int .i64 k] w fun e w' => e = .returned (.tuple #[.slice none 0 0, .int .i64 5]) ∧ Below w.heap.size w w' := by
  have hv := valid_f c m k
  rw [decide_eq_false hH] at hv
  have HV := Aside0.mk hv
  clear hv
  have HB := Aside0.mk (Below.refl w.heap.size w)
  go_enter Try.func7, Try.ntmps7
  go_wp2_with fail
  refine (noise_hiding_valid.calls c m k false _ HV.out).mono ?_
  rintro e w1 ⟨rfl, hb1⟩
  have HB1 := Aside0.mk (below_step (by repeat (first | exact HB.out | apply below_alloc)) hb1)
  clear hb1
  go_wp2
  go_ret2
  exact ⟨rfl, HB1.out⟩

theorem Loss_no (a b m k : Int) (hH : ¬ (Hid3 a m k ∧ Hid3 b m k)) (w : World) :
    Calls Try.prog 13 #[.int .i64 a, .int .i64 b, .int .i64 m, .int .i64 k] w fun e w' => e = .returned (.tuple #[.int .i64 0, .int .i64 5]) ∧ Below w.heap.size w w' := by
  have hb0 : Below w.heap.size w ((w.alloc (.cells #[.int .i64 a, .int .i64 m, .int .i64 k] 43)).alloc (.cells #[.int .i64 b, .int .i64 m, .int .i64 k] 43)) := ((Below.refl _ w).alloc (Nat.le_refl _) _).alloc (by simp) _
  have HB := Aside0.mk hb0
  clear hb0
  by_cases hA : Hid3 a m k
  · have hva := valid_f a m k
    rw [decide_eq_true hA] at hva
    have hvb := valid_f b m k
    rw [decide_eq_false (fun h => hH ⟨hA, h⟩)] at hvb
    have HVA := Aside0.mk hva
    have HVB := Aside0.mk hvb
    clear hva hvb
    go_enter Try.func13, Try.ntmps13
    go_wp2_with fail
    have hB0 : HidAt ((w.alloc (.cells #[.int .i64 a, .int .i64 m, .int .i64 k] 43)).alloc (.cells #[.int .i64 b, .int .i64 m, .int .i64 k] 43)) (w.heap.size + 1) b m k := by
      have := HidAt.new (w.alloc (.cells #[.int .i64 a, .int .i64 m, .int .i64 k] 43)) b m k
      rwa [World.size_alloc] at this
    refine (noise_hiding_valid.calls a m k true _ HVA.out).mono ?_
    rintro e w1 ⟨rfl, hb1⟩
    have hB1 := hB0.below hb1
    have HB1 := Aside0.mk (below_step HB.out hb1)
    clear hB0 hb1
    have b0 := hB1.c0
    have b1 := hB1.c1
    have b2 := hB1.c2
    go_wp2_with fail
    refine (noise_hiding_valid.calls b m k false _ HVB.out).mono ?_
    rintro e w2 ⟨rfl, hb2⟩
    have HB2 := Aside0.mk (below_step HB1.out hb2)
    clear b0 b1 b2 hB1 hb2
    go_wp2
    go_ret2
    exact ⟨rfl, HB2.out⟩
  · have hva := valid_f a m k
    rw [decide_eq_false hA] at hva
    have HVA := Aside0.mk hva
    clear hva
    go_enter Try.func13, Try.ntmps13
    go_wp2_with fail
    refine (noise_hiding_valid.calls a m k false _ HVA.out).mono ?_
    rintro e w1 ⟨rfl, hb1⟩
    have HB1 := Aside0.mk (below_step HB.out hb1)
    clear hb1
    go_wp2
    go_ret2
    exact ⟨rfl, HB1.out⟩

theorem noise_Weights.calls (a0 a1 a2 : Int) (r1 : List Int) (r2 : Int) (w : World) (h : noise_Weights.f a0 a1 a2 = some (r1, r2)) :
    Calls Try.prog 7 #[.int .i64 a0, .int .i64 a1, .int .i64 a2] w fun e w' => ∃ v0_ : Value, e = .returned (.tuple #[v0_, .int .i64 r2]) ∧ Kd.R (Kd.int .i64) 3 w' w.heap.size (fun _ => True) v0_ r1 ∧ Below w.heap.size w w' := by
  unfold noise_Weights.f at h
  split at h
  · simp only [Option.some.injEq, Prod.mk.injEq] at h
    obtain ⟨rfl, rfl⟩ := h
    refine (Weights_yes a0 a1 a2 (by assumption) w).mono ?_
    rintro e w' ⟨v, rfl, hr, hb⟩
    exact ⟨v, rfl, Kd.R_of_own hr (fun _ _ => trivial), hb⟩
  · simp only [Option.some.injEq, Prod.mk.injEq] at h
    obtain ⟨rfl, rfl⟩ := h
    refine (Weights_no a0 a1 a2 (by assumption) w).mono ?_
    rintro e w' ⟨rfl, hb⟩
    exact ⟨_, rfl, Kd.R_nil _ _ _ _ _, hb⟩
theorem noise_Loss.calls (a0 a1 a2 a3 : Int) (r1 r2 : Int) (w : World) (h : noise_Loss.f a0 a1 a2 a3 = some (r1, r2)) :
    Calls Try.prog 13 #[.int .i64 a0, .int .i64 a1, .int .i64 a2, .int .i64 a3] w fun e w' => e = .returned (.tuple #[.int .i64 r1, .int .i64 r2]) ∧ Below w.heap.size w w' := by
  unfold noise_Loss.f at h
  by_cases hH : Hid3 a0 a2 a3 ∧ Hid3 a1 a2 a3
  · rw [if_pos hH] at h
    simp only [Option.some.injEq, Prod.mk.injEq] at h
    obtain ⟨rfl, rfl⟩ := h
    exact Loss_yes a0 a1 a2 a3 hH.1 hH.2 w
  · rw [if_neg hH] at h
    simp only [Option.some.injEq, Prod.mk.injEq] at h
    obtain ⟨rfl, rfl⟩ := h
    exact Loss_no a0 a1 a2 a3 hH w
end Go.Proofs.Ytkjafjoknipaiaa.Q
