/- For all differences, the closure has 0 where a value meets itself, and no number of it is greater than the sum of two others that lead there; as differences, its numbers have the same closure. No condition. -/
import Derived.Test.YtcnkjcbjlopkmaaQ20
import Derived.Test.YtcnkjcbjlopkmaaSam
import Derived.Test.YtcnkjcbjlopkmaaWl4
import Derived.DataShut
namespace Go.Proofs.Ytcnkjcbjlopkmaa.Pure
open Go.RowKit Go.Proofs.Ytcnkjcbjlopkmaa.Q Go.Proofs.YtcnkjcbjlopkmaaW.PrintWords Go.Proofs.YtcnkjcbjlopkmaaW.PrintLast Go.Proofs.YtcnkjcbjlopkmaaW.PrintMore
set_option linter.unusedVariables false
set_option linter.unusedSimpArgs false

theorem wfI {x : Int} (h : (Lit.int .i64 x).wf = true) : I64 x := by
  rw [Lit.wf_int_iff] at h
  exact ⟨h.1, h.2⟩
/-! A table's numbers as differences. -/
def dOf (n : Nat) (R : Tb) (i k : Nat) : S55 := ⟨if i = n then -1 else (i : Int), if k = n then -1 else (k : Int), R i k⟩
def agK (n : Nat) (R : Tb) (i : Nat) : Nat → List S55
  | 0 => []
  | k + 1 => if i ≠ k ∧ R i k < FREE then agK n R i k ++ [dOf n R i k] else agK n R i k
def agI (n : Nat) (R : Tb) : Nat → List S55
  | 0 => []
  | i + 1 => agI n R i ++ agK n R i (n + 1)
theorem agK_len (n : Nat) (R : Tb) (i : Nat) : ∀ k, (agK n R i k).length ≤ k
  | 0 => Nat.le_refl _
  | k + 1 => by
    have := agK_len n R i k
    unfold agK
    split
    · rw [List.length_append, List.length_singleton]; omega
    · omega
theorem agI_len (n : Nat) (R : Tb) : ∀ i, (agI n R i).length ≤ i * (n + 1)
  | 0 => by simp [agI]
  | i + 1 => by
    have := agI_len n R i
    have := agK_len n R i (n + 1)
    unfold agI
    rw [List.length_append, Nat.succ_mul]
    omega
theorem agK_mem (n : Nat) (R : Tb) (i : Nat) (x : S55) : ∀ k, x ∈ agK n R i k ↔ ∃ j, j < k ∧ i ≠ j ∧ R i j < FREE ∧ x = dOf n R i j
  | 0 => by simp [agK]
  | k + 1 => by
    have ih := agK_mem n R i x k
    unfold agK
    by_cases h : i ≠ k ∧ R i k < FREE
    · rw [if_pos h, List.mem_append, ih, List.mem_singleton]
      constructor
      · rintro (⟨j, h1, h2⟩ | h1)
        · exact ⟨j, by omega, h2⟩
        · exact ⟨k, by omega, h.1, h.2, h1⟩
      · rintro ⟨j, h1, h2, h3, h4⟩
        by_cases e : j = k
        · subst e; exact .inr h4
        · exact .inl ⟨j, by omega, h2, h3, h4⟩
    · rw [if_neg h, ih]
      constructor
      · rintro ⟨j, h1, h2⟩
        exact ⟨j, by omega, h2⟩
      · rintro ⟨j, h1, h2, h3, h4⟩
        by_cases e : j = k
        · subst e; exact absurd ⟨h2, h3⟩ h
        · exact ⟨j, by omega, h2, h3, h4⟩
theorem agI_mem (n : Nat) (R : Tb) (x : S55) : ∀ i, x ∈ agI n R i ↔ ∃ a b, a < i ∧ b < n + 1 ∧ a ≠ b ∧ R a b < FREE ∧ x = dOf n R a b
  | 0 => by simp [agI]
  | i + 1 => by
    unfold agI
    rw [List.mem_append, agI_mem n R x i, agK_mem]
    constructor
    · rintro (⟨a, b, h1, h2⟩ | ⟨j, h1, h2⟩)
      · exact ⟨a, b, by omega, h2⟩
      · exact ⟨i, j, by omega, h1, h2⟩
    · rintro ⟨a, b, h1, h2, h3⟩
      by_cases e : a = i
      · subst e; exact .inr ⟨b, h2, h3⟩
      · exact .inl ⟨a, b, by omega, h2, h3⟩
theorem edge_dOf {n : Nat} {R : Tb} {a b : Nat} (ha : a < n + 1) (hb : b < n + 1) : edgeOf (n : Int) (dOf n R a b) = ⟨(a : Int), (b : Int), R a b⟩ := by
  have key : ∀ a : Nat, a < n + 1 → rowOf (n : Int) (if a = n then -1 else (a : Int)) = (a : Int) := by
    intro a ha
    unfold rowOf
    by_cases h : a = n
    · rw [if_pos h, if_pos (by omega), h]
    · rw [if_neg h, if_neg (by omega)]
  unfold edgeOf dOf
  rw [key a ha, key b hb]
/-- Tables that agree in their first rows and columns. -/
def Agree (N : Nat) (S T : Tb) : Prop := ∀ a b, a < N → b < N → S a b = T a b
theorem PN_agree {N j : Nat} {S T : Tb} (hj : j < N) (h : Agree N S T) : Agree N (PN N j S) (PN N j T) := by
  intro a b ha hb
  unfold PN
  rw [h a j ha hj, h j b hj hb, h a b ha hb]
theorem run_agree {N : Nat} {S T : Tb} (h : Agree N S T) : ∀ j, j ≤ N → Agree N (run N S j) (run N T j)
  | 0, _ => h
  | j + 1, hj => PN_agree (by omega) (run_agree h j (by omega))
theorem tabOf_agree {N : Nat} {S T : Tb} (h : Agree N S T) : tabOf N S = tabOf N T := by
  unfold tabOf
  refine List.map_congr_left (fun a ha => ?_)
  unfold rowL
  exact List.map_congr_left (fun b hb => h a b (List.mem_range.1 ha) (List.mem_range.1 hb))
theorem negB_agree {N : Nat} {S T : Tb} (h : Agree N S T) : negB N S = negB N T := by
  have key : ∀ S T : Tb, Agree N S T → negB N S = true → negB N T = true := by
    intro S T h h1
    obtain ⟨i, hi, h2⟩ := (negB_iff N S).1 h1
    exact (negB_iff N T).2 ⟨i, hi, by rw [← h i i hi hi]; exact h2⟩
  rw [Bool.eq_iff_iff]
  exact ⟨key S T h, key T S (fun a b ha hb => (h a b ha hb).symm)⟩
/-! Small numbers. -/
def pw (B : Int) : Nat → Int
  | 0 => B
  | j + 1 => 2 * pw B j
theorem pw_le : ∀ j, j ≤ 6 → 0 ≤ pw 100 j ∧ pw 100 j ≤ 6400
  | 0, _ => by decide
  | 1, _ => by decide
  | 2, _ => by decide
  | 3, _ => by decide
  | 4, _ => by decide
  | 5, _ => by decide
  | 6, _ => by decide
  | j + 7, h => by omega
theorem run_small {N : Nat} {T : Tb} (h : Bnd N 100 T) (hN : N ≤ 6) : ∀ j, j ≤ N → Bnd N (pw 100 j) (run N T j)
  | 0, _ => h
  | j + 1, hj => (run_small h hN j (by omega)).step (pw_le j (by omega)).1 (by have := (pw_le j (by omega)).2; omega) j (by omega)
section
variable {n : Nat} {d : List S54}
theorem T1_small (hg : ∀ x ∈ d, GoodD (n : Int) x) : Bnd (n + 1) 100 (T1 (ed n d)) := by
  intro a b ha hb
  have hF : FREE = 1099511627776 := rfl
  rcases T1_from (ed n d) a b with h | ⟨i, h1, h2, h3, h4⟩
  · rw [h]
    unfold idT
    split <;> omega
  · rw [h4]
    rw [ed_len] at h1
    rw [ed_get h1]
    have := hg _ (List.getElem_mem h1)
    have g6 : -100 ≤ (edgeOf (n : Int) (o55 d[i])).f2 := this.2.2.2.2.2.1
    have g7 : (edgeOf (n : Int) (o55 d[i])).f2 ≤ 100 := this.2.2.2.2.2.2
    omega
theorem R_small (hn : n ≤ 5) (hg : ∀ x ∈ d, GoodD (n : Int) x) : Bnd (n + 1) 6400 (R_ n (ed n d)) := by
  have h := run_small (T1_small hg) (by omega) (n + 1) (Nat.le_refl _)
  have h2 := pw_le (n + 1) (by omega)
  intro a b ha hb
  have h3 := h a b ha hb
  exact ⟨by unfold R_; omega, h3.2.1, fun hf => Int.le_trans (h3.2.2 hf) h2.2⟩
end
section
variable {n : Nat} {R : Tb}
/-- The closure of a closed table's numbers. -/
theorem again_close (hn : n ≤ 5) (hb : Bnd (n + 1) 6400 R) (hc : Clsd (n + 1) (n + 1) R) (h0 : ∀ a, a < n + 1 → R a a = 0) : closeS (n : Int) (agI n R (n + 1)) = (tabOf (n + 1) R, 0) := by
  have hF : FREE = 1099511627776 := rfl
  have hlen : (agI n R (n + 1)).length ≤ 64 := by
    have := agI_len n R (n + 1)
    have h6 : (n + 1) * (n + 1) ≤ 6 * 6 := Nat.mul_le_mul (by omega) (by omega)
    omega
  have hv : validS (n : Int) (agI n R (n + 1)) = 0 := by
    unfold validS
    rw [if_neg (by omega), if_neg (by omega), if_pos]
    rw [List.all_eq_true]
    intro x hx
    obtain ⟨a, b, ha, hb2, hab, hf, rfl⟩ := (agI_mem n R x (n + 1)).1 hx
    have h1 := hb a b ha hb2
    have h2 := h1.2.2 hf
    unfold okDiff dOf
    refine decide_eq_true ⟨?_, ?_, ?_, ?_, ?_, ?_, ?_⟩
    · show -1 ≤ (if a = n then -1 else (a : Int)); split <;> omega
    · show -1 ≤ (if b = n then -1 else (b : Int)); split <;> omega
    · show (if a = n then -1 else (a : Int)) < (n : Int); split <;> omega
    · show (if b = n then -1 else (b : Int)) < (n : Int); split <;> omega
    · show ¬ (if a = n then -1 else (a : Int)) = (if b = n then -1 else (b : Int))
      split <;> split <;> omega
    · show -2097152 ≤ R a b; omega
    · show R a b ≤ 2097152; omega
  have hag : Agree (n + 1) (T1 ((agI n R (n + 1)).map (edgeOf (n : Int)))) R := by
    intro a b ha hb2
    have hfrom := T1_from ((agI n R (n + 1)).map (edgeOf (n : Int))) a b
    by_cases hab : a = b
    · subst hab
      rw [h0 a ha]
      rcases hfrom with h | ⟨i, h1, h2, h3, h4⟩
      · rw [h]; unfold idT; rw [if_pos rfl]
      · exfalso
        have hm := eg_mem h1
        obtain ⟨x, hx, e⟩ := List.mem_map.1 hm
        obtain ⟨p, q, hp, hq, hpq, hf, rfl⟩ := (agI_mem n R x (n + 1)).1 hx
        rw [edge_dOf hp hq] at e
        rw [← e] at h2 h3
        simp only [Int.toNat_natCast] at h2 h3
        omega
    · have hle : R a b < FREE → T1 ((agI n R (n + 1)).map (edgeOf (n : Int))) a b ≤ R a b := by
        intro hf
        have hx : dOf n R a b ∈ agI n R (n + 1) := (agI_mem n R _ (n + 1)).2 ⟨a, b, ha, hb2, hab, hf, rfl⟩
        obtain ⟨i, hi, e⟩ := List.getElem_of_mem (List.mem_map_of_mem (f := edgeOf (n : Int)) hx)
        have ee : eg ((agI n R (n + 1)).map (edgeOf (n : Int))) i = ⟨(a : Int), (b : Int), R a b⟩ := by
          rw [← edge_dOf ha hb2, ← e]
          unfold eg
          rw [List.getD_eq_getElem?_getD, List.getElem?_eq_getElem hi]
          rfl
        have := T1_edge hi
        rw [ee] at this
        simpa using this
      rcases hfrom with h | ⟨i, h1, h2, h3, h4⟩
      · have hid : idT a b = FREE := by unfold idT; rw [if_neg hab]
        rw [h, hid]
        have := (hb a b ha hb2).2.1
        by_cases hf : R a b < FREE
        · have := hle hf
          rw [h, hid] at this
          omega
        · omega
      · have hm := eg_mem h1
        obtain ⟨x, hx, e⟩ := List.mem_map.1 hm
        obtain ⟨p, q, hp, hq, hpq, hf, rfl⟩ := (agI_mem n R x (n + 1)).1 hx
        rw [edge_dOf hp hq] at e
        rw [← e] at h2 h3 h4
        simp only [Int.toNat_natCast] at h2 h3 h4
        subst h2 h3
        exact h4
  have hrun : Agree (n + 1) (run (n + 1) (T1 ((agI n R (n + 1)).map (edgeOf (n : Int)))) (n + 1)) R := by
    have := run_agree hag (n + 1) (Nat.le_refl _)
    rwa [run_fix hc (n + 1) (Nat.le_refl _)] at this
  have hneg : negB (n + 1) R = false := by
    cases h : negB (n + 1) R with
    | false => rfl
    | true =>
      obtain ⟨i, hi, h1⟩ := (negB_iff _ _).1 h
      have := h0 i hi
      omega
  unfold closeS
  rw [if_pos hv, Int.toNat_natCast, negB_agree hrun, hneg, tabOf_agree hrun]
  rfl
theorem cl_j4 (hn : n ≤ 5) {i k : Nat} (hi : i < n + 1) (hk : k < n + 1) (f : Bool) (hf : f = (decide (i ≠ k ∧ R i k < FREE))) {acc : List S55} (hacc : acc.length ≤ 1000)
    (h : Ev (fun t => l14_BoundsClosed.l2 t (n : Int) (tabOf (n + 1) R) (if f = true then acc ++ [dOf n R i k] else acc) (i : Int) ((k + 1 : Nat) : Int)) true) :
    Ev (fun t => l14_BoundsClosed.j4 t (n : Int) (tabOf (n + 1) R) acc (i : Int) (k : Int) f) true := by
  refine Ev.step (fun t => ?_) h
  rw [l14_BoundsClosed.j4]
  cases f with
  | false =>
    rw [if_neg (by simp), if_neg (by simp), wrap_nat k (by omega)]
  | true =>
    rw [if_pos rfl, if_pos rfl, if_pos (by omega), tabOf_len, if_pos (by omega), if_pos (by omega), tabOf_row R hi, rowL_len, if_pos (by omega), rowL_get (R i) hk, wrap_nat k (by omega)]
    unfold dOf
    by_cases e1 : i = n
    · rw [if_pos (show (i : Int) = (n : Int) by omega), if_pos e1]
      by_cases e2 : k = n
      · rw [if_pos (show (k : Int) = (n : Int) by omega), if_pos e2, if_pos (by omega)]
      · rw [if_neg (show ¬ (k : Int) = (n : Int) by omega), if_neg e2, if_pos (by omega)]
    · rw [if_neg (show ¬ (i : Int) = (n : Int) by omega), if_neg e1]
      by_cases e2 : k = n
      · rw [if_pos (show (k : Int) = (n : Int) by omega), if_pos e2, if_pos (by omega)]
      · rw [if_neg (show ¬ (k : Int) = (n : Int) by omega), if_neg e2, if_pos (by omega)]
theorem cl_l3 (hn : n ≤ 5) (hb : Bnd (n + 1) 6400 R) (hc : Clsd (n + 1) (n + 1) R) {i k : Nat} (hi : i < n + 1) (hk : k < n + 1) {acc : List S55}
    (h : Ev (fun t => l14_BoundsClosed.j4 t (n : Int) (tabOf (n + 1) R) acc (i : Int) (k : Int) (decide (i ≠ k ∧ R i k < FREE))) true) : ∀ (e j : Nat), j + e = n + 1 →
    Ev (fun t => l14_BoundsClosed.l3 t (n : Int) (tabOf (n + 1) R) acc (i : Int) (k : Int) (j : Int)) true
  | 0, j, hj => by
    have hF : FREE = 1099511627776 := rfl
    refine Ev.step (fun t => ?_) h
    rw [l14_BoundsClosed.l3, if_neg (by omega)]
    by_cases e : i = k
    · rw [if_pos (by omega), decide_eq_false (show ¬ (i ≠ k ∧ R i k < FREE) from fun hh => hh.1 e)]
    · rw [if_neg (by omega), if_pos (by omega), tabOf_len, if_pos (by omega), if_pos (by omega), tabOf_row R hi, rowL_len, if_pos (by omega), rowL_get (R i) hk]
      by_cases g : R i k < FREE
      · rw [decide_eq_true (show R i k < 1099511627776 from g), decide_eq_true (show i ≠ k ∧ R i k < FREE from ⟨e, g⟩)]
      · rw [decide_eq_false (show ¬ R i k < 1099511627776 from g), decide_eq_false (show ¬ (i ≠ k ∧ R i k < FREE) from fun hh => g hh.2)]
  | e + 1, j, hj => by
    have hF : FREE = 1099511627776 := rfl
    have hjl : j < n + 1 := by omega
    have ih := cl_l3 hn hb hc hi hk h e (j + 1) (by omega)
    refine Ev.step (fun t => ?_) ih
    rw [l14_BoundsClosed.l3, if_pos (by omega), if_pos (by omega), tabOf_len, if_pos (by omega), if_pos (by omega), tabOf_row R hi, rowL_len, if_pos (by omega), rowL_get (R i) hjl, wrap_nat j (by omega)]
    by_cases g1 : R i j < FREE
    · rw [if_pos (show R i j < 1099511627776 from g1), if_pos (by omega), if_pos (by omega), tabOf_row R hjl, rowL_len, if_pos (by omega), rowL_get (R j) hk]
      by_cases g2 : R j k < FREE
      · have b1 := hb i j hi hjl
        have b2 := hb j k hjl hk
        have b3 := b1.2.2 g1
        have b4 := b2.2.2 g2
        have := hc j hjl i k hi hk g1 g2
        rw [if_pos (show R j k < 1099511627776 from g2), if_pos (by omega), rowL_get (R i) hk, wrapOk _ (by omega) (by omega), if_neg (by omega)]
      · rw [if_neg (show ¬ R j k < 1099511627776 from g2)]
    · rw [if_neg (show ¬ R i j < 1099511627776 from g1)]
theorem cl_l2 (hn : n ≤ 5) (hb : Bnd (n + 1) 6400 R) (hc : Clsd (n + 1) (n + 1) R) {i : Nat} (hi : i < n + 1) {acc : List S55} (hacc : acc.length ≤ 900)
    (h : Ev (fun t => l14_BoundsClosed.l1 t (n : Int) (tabOf (n + 1) R) (acc ++ agK n R i (n + 1)) ((i + 1 : Nat) : Int)) true) : ∀ (e k : Nat), k + e = n + 1 →
    Ev (fun t => l14_BoundsClosed.l2 t (n : Int) (tabOf (n + 1) R) (acc ++ agK n R i k) (i : Int) (k : Int)) true
  | 0, k, hk => by
    have e : k = n + 1 := by omega
    subst e
    refine Ev.step (fun t => ?_) h
    rw [l14_BoundsClosed.l2, if_neg (by omega), wrap_nat i (by omega)]
  | e + 1, k, hk => by
    have hkl : k < n + 1 := by omega
    have ih := cl_l2 hn hb hc hi hacc h e (k + 1) (by omega)
    have hlen := agK_len n R i k
    have h4 := cl_j4 (R := R) hn hi hkl (decide (i ≠ k ∧ R i k < FREE)) rfl (acc := acc ++ agK n R i k) (by rw [List.length_append]; omega) (by
      have e1 : (if decide (i ≠ k ∧ R i k < FREE) = true then acc ++ agK n R i k ++ [dOf n R i k] else acc ++ agK n R i k) = acc ++ agK n R i (k + 1) := by
        by_cases g : i ≠ k ∧ R i k < FREE
        · rw [if_pos (decide_eq_true g), agK, if_pos g, List.append_assoc]
        · rw [if_neg (by rw [decide_eq_true_eq]; exact g), agK, if_neg g]
      rw [e1]
      exact ih)
    have h3 := cl_l3 hn hb hc hi hkl h4 (n + 1) 0 (by omega)
    refine Ev.step (fun t => ?_) h3
    rw [l14_BoundsClosed.l2, if_pos (by omega)]
    rfl
theorem cl_l1 (hn : n ≤ 5) (hb : Bnd (n + 1) 6400 R) (hc : Clsd (n + 1) (n + 1) R) (h0 : ∀ a, a < n + 1 → R a a = 0) : ∀ (e i : Nat), i + e = n + 1 →
    Ev (fun t => l14_BoundsClosed.l1 t (n : Int) (tabOf (n + 1) R) (agI n R i) (i : Int)) true
  | 0, i, hi => by
    have e : i = n + 1 := by omega
    subst e
    have hb2 : Ev (fun t => (bounds_Close.f t (n : Int) (agI n R (n + 1))).bind fun bt742 => (if bt742.2 = 0 then ((r14_SameTables.f t bt742.1 (tabOf (n + 1) R)).bind fun t746 => (if t746 = true then ((l14_lives.f t).bind fun t747 => (some t747)) else (some false))) else (some false))) true := by
      have h1 := close_f (n : Int) (agI n R (n + 1))
      rw [again_close hn hb hc h0] at h1
      refine Ev.bind h1 ?_
      refine Ev.congr (fun k => if_pos rfl) ?_
      obtain ⟨hl1, hl2⟩ := tabOf_rows (n + 1) R
      refine Ev.bind (sameTabs_f (tabOf (n + 1) R) (by omega) (fun x hx => by have := hl2 x hx; omega)) ?_
      refine Ev.congr (fun k => if_pos rfl) ?_
      exact Ev.bind (f := fun _ t => some t) lives_f (Ev.now _)
    refine Ev.step (fun t => ?_) hb2
    rw [l14_BoundsClosed.l1, if_neg (by omega)]
  | e + 1, i, hi => by
    have hil : i < n + 1 := by omega
    have ih := cl_l1 hn hb hc h0 e (i + 1) (by omega)
    have hlen := agI_len n R i
    have h6 : i * (n + 1) ≤ 6 * 6 := Nat.mul_le_mul (by omega) (by omega)
    have h2 := cl_l2 hn hb hc hil (acc := agI n R i) (by omega) ih (n + 1) 0 (by omega)
    refine Ev.step (fun t => ?_) h2
    rw [l14_BoundsClosed.l1, if_pos (by omega), if_pos (by omega), tabOf_len, if_pos (by omega), tabOf_row R hil, rowL_len, if_pos (by omega), rowL_get (R i) hil, if_pos (h0 i hil), agK, List.append_nil]
    rfl
theorem cl_l0 (hn : n ≤ 5) (hb : Bnd (n + 1) 6400 R) (hc : Clsd (n + 1) (n + 1) R) (h0 : ∀ a, a < n + 1 → R a a = 0) : ∀ (e i : Nat), i + e = n + 1 →
    Ev (fun t => l14_BoundsClosed.l0 t (n : Int) (tabOf (n + 1) R) (i : Int)) true
  | 0, i, hi => by
    refine Ev.step (fun t => ?_) (cl_l1 hn hb hc h0 (n + 1) 0 (by omega))
    rw [l14_BoundsClosed.l0, if_neg (by omega)]
    rfl
  | e + 1, i, hi => by
    have hil : i < n + 1 := by omega
    refine Ev.step (fun t => ?_) (cl_l0 hn hb hc h0 e (i + 1) (by omega))
    rw [l14_BoundsClosed.l0, if_pos (by omega), if_pos (by omega), tabOf_len, if_pos (by omega), tabOf_row R hil, rowL_len, wrap_nat n (by omega), if_pos rfl, wrap_nat i (by omega)]
end
theorem BoundsClosed : l14_BoundsClosed.Pure := by
  intro l0 _ _ h0
  obtain ⟨n, d, hM, n1, n5, hdl, hg⟩ := made_g (l := l0) (fun x hx => wfI (h0 x hx))
  have hn : n ≤ 10 := by omega
  have hl : d.length ≤ 64 := by omega
  have hok := ed_ok hn hl hg
  have hc := closeS_good hn hl hg
  refine Ev.rounds ?_
  unfold l14_BoundsClosed.f
  refine Ev.bind hM ?_
  refine Ev.bind (own_f d (by omega)) ?_
  refine Ev.bind (close_f (n : Int) (d.map o55)) ?_
  rw [hc]
  cases hneg : negB (n + 1) (R_ n (ed n d)) with
  | true =>
    rw [if_pos rfl]
    refine Ev.congr (fun k => by rw [if_neg (show ¬ (14 : Int) = 0 by decide), if_pos rfl, if_pos (show ((([] : List (List Int)).length : Nat) : Int) = 0 from rfl)]) ?_
    exact Ev.bind (f := fun _ t => some t) lives_f (Ev.now _)
  | false =>
    have hcl := cl_l0 n5 (R_small n5 hg) (R_clsd hn hok hneg) (fun a ha => R_diag hn hok hneg ha) (n + 1) 0 (by omega)
    rw [if_neg (by simp)]
    refine Ev.congr (fun k => ?_) hcl
    rw [if_pos rfl, tabOf_len, wrap_nat n (by omega), if_pos rfl]
    rfl
end Go.Proofs.Ytcnkjcbjlopkmaa.Pure
