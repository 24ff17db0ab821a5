/- What Fill of package bounds returns for a closed table: values that keep it, each within Range behind those before. -/
import Derived.Test.YtcnkjcbjlopkmaaWl4
import Derived.Test.YtcnkjcbjlopkmaaQ11
import Derived.Test.YtcnkjcbjlopkmaaRan
namespace Go.Proofs.Ytcnkjcbjlopkmaa.Q
open Go.RowKit Go.Proofs.YtcnkjcbjlopkmaaW.PrintWords Go.Proofs.YtcnkjcbjlopkmaaW.PrintLast Go.Proofs.YtcnkjcbjlopkmaaW.PrintMore
set_option linter.unusedVariables false
set_option linter.unusedSimpArgs false

/-! The least and the greatest value, of a table by rows. -/
section
variable {c : List (List Int)} {vs : List Int} {n k : Nat}
theorem loOf_none : ∀ {j}, loOf c vs n k j = none → ∀ i, i < j → ¬ cel c (rowAt n k i) k < FREE
  | 0, _, i, hi => by omega
  | j + 1, h, i, hi => by
    unfold loOf at h
    simp only at h
    split at h
    · cases h
    · rename_i hc
      by_cases e : i = j
      · subst e; exact hc
      · exact loOf_none h i (by omega)
theorem loOf_some : ∀ {j y}, loOf c vs n k j = some y → (∀ i, i < j → cel c (rowAt n k i) k < FREE → vs.getD i 0 - cel c (rowAt n k i) k ≤ y) ∧ ∃ i, i < j ∧ cel c (rowAt n k i) k < FREE ∧ y = vs.getD i 0 - cel c (rowAt n k i) k
  | 0, y, h => by cases h
  | j + 1, y, h => by
    unfold loOf at h
    simp only at h
    split at h
    · rename_i hc
      cases hr : loOf c vs n k j with
      | none =>
        rw [hr] at h
        injection h with h
        have h : vs.getD j 0 - cel c (rowAt n k j) k = y := h
        refine ⟨fun i hi hf => ?_, j, by omega, hc, h.symm⟩
        by_cases e : i = j
        · subst e; omega
        · exact absurd hf (loOf_none hr i (by omega))
      | some z =>
        rw [hr] at h
        simp only at h
        injection h with h
        obtain ⟨h1, i, h2, h3, h4⟩ := loOf_some hr
        by_cases hz : z < vs.getD j 0 - cel c (rowAt n k j) k
        · rw [if_pos hz] at h
          refine ⟨fun q hq hf => ?_, j, by omega, hc, h.symm⟩
          by_cases e : q = j
          · subst e; omega
          · have := h1 q (by omega) hf; omega
        · rw [if_neg hz] at h
          refine ⟨fun q hq hf => ?_, i, by omega, h3, by omega⟩
          by_cases e : q = j
          · subst e; omega
          · have := h1 q (by omega) hf; omega
    · rename_i hc
      obtain ⟨h1, i, h2, h3, h4⟩ := loOf_some h
      refine ⟨fun q hq hf => ?_, i, by omega, h3, h4⟩
      by_cases e : q = j
      · subst e; exact absurd hf hc
      · exact h1 q (by omega) hf
theorem hiOf_none : ∀ {j}, hiOf c vs n k j = none → ∀ i, i < j → ¬ cel c k (rowAt n k i) < FREE
  | 0, _, i, hi => by omega
  | j + 1, h, i, hi => by
    unfold hiOf at h
    simp only at h
    split at h
    · cases h
    · rename_i hc
      by_cases e : i = j
      · subst e; exact hc
      · exact hiOf_none h i (by omega)
theorem hiOf_some : ∀ {j y}, hiOf c vs n k j = some y → (∀ i, i < j → cel c k (rowAt n k i) < FREE → y ≤ vs.getD i 0 + cel c k (rowAt n k i)) ∧ ∃ i, i < j ∧ cel c k (rowAt n k i) < FREE ∧ y = vs.getD i 0 + cel c k (rowAt n k i)
  | 0, y, h => by cases h
  | j + 1, y, h => by
    unfold hiOf at h
    simp only at h
    split at h
    · rename_i hc
      cases hr : hiOf c vs n k j with
      | none =>
        rw [hr] at h
        injection h with h
        have h : vs.getD j 0 + cel c k (rowAt n k j) = y := h
        refine ⟨fun i hi hf => ?_, j, by omega, hc, h.symm⟩
        by_cases e : i = j
        · subst e; omega
        · exact absurd hf (hiOf_none hr i (by omega))
      | some z =>
        rw [hr] at h
        simp only at h
        injection h with h
        obtain ⟨h1, i, h2, h3, h4⟩ := hiOf_some hr
        by_cases hz : vs.getD j 0 + cel c k (rowAt n k j) < z
        · rw [if_pos hz] at h
          refine ⟨fun q hq hf => ?_, j, by omega, hc, h.symm⟩
          by_cases e : q = j
          · subst e; omega
          · have := h1 q (by omega) hf; omega
        · rw [if_neg hz] at h
          refine ⟨fun q hq hf => ?_, i, by omega, h3, by omega⟩
          by_cases e : q = j
          · subst e; omega
          · have := h1 q (by omega) hf; omega
    · rename_i hc
      obtain ⟨h1, i, h2, h3, h4⟩ := hiOf_some h
      refine ⟨fun q hq hf => ?_, i, by omega, h3, h4⟩
      by_cases e : q = j
      · subst e; exact absurd hf hc
      · exact h1 q (by omega) hf
end
/-! Values that keep a table. -/
/-- The rows that stand: the first k, and the last one (for 0). -/
def Stand (n k a : Nat) : Prop := a < k ∨ a = n
/-- The values keep the table's numbers, as far as they stand. -/
def Keep (n : Nat) (R : Tb) (vs : List Int) : Prop := ∀ a b, Stand n vs.length a → Stand n vs.length b → R a b < FREE → vs.getD a 0 ≤ vs.getD b 0 + R a b
def Small (vs : List Int) : Prop := ∀ i, i < vs.length → -(6400 * ((i : Int) + 1)) ≤ vs.getD i 0 ∧ vs.getD i 0 ≤ 6400 * ((i : Int) + 1)
/-- No row is free of bounds. -/
def LoFree (n : Nat) (R : Tb) (k : Nat) : Prop := ∀ a, Stand n k a → ¬ R a k < FREE
def HiFree (n : Nat) (R : Tb) (k : Nat) : Prop := ∀ a, Stand n k a → ¬ R k a < FREE
section
variable {n : Nat} {R : Tb}
theorem cel_tab {i k : Nat} (hi : i < n + 1) (hk : k < n + 1) : cel (tabOf (n + 1) R) i k = R i k := by
  have h1 := tabOf_row R hi
  have h2 := rowL_get (R i) hk
  unfold rd_L4 at h1
  unfold rd at h2
  rw [Int.toNat_natCast] at h1 h2
  unfold cel
  rw [h1, h2]
theorem good_tab (hn : n ≤ 10) (hb : Bnd (n + 1) 6400 R) : badTab (tabOf (n + 1) R) = false := by
  have hF : FREE = 1099511627776 := rfl
  rw [badTab_any, tabOf_len]
  simp only [Bool.or_eq_false_iff, decide_eq_false_iff_not]
  refine ⟨⟨by omega, by omega⟩, ?_⟩
  rw [List.any_eq_false]
  intro row hrow
  unfold tabOf at hrow
  obtain ⟨a, ha, rfl⟩ := List.mem_map.1 hrow
  rw [List.mem_range] at ha
  unfold badRow
  rw [Bool.not_eq_true, Bool.or_eq_false_iff]
  refine ⟨by rw [rowL_len]; simp, ?_⟩
  rw [List.any_eq_false]
  intro x hx
  unfold rowL at hx
  obtain ⟨b, hb2, rfl⟩ := List.mem_map.1 hx
  rw [List.mem_range] at hb2
  have := hb a b ha hb2
  unfold wild
  rw [Bool.not_eq_true, Bool.or_eq_false_iff, decide_eq_false_iff_not, decide_eq_false_iff_not]
  omega
theorem small_wild {vs : List Int} (hs : Small vs) (hl : vs.length ≤ 10) : vs.any wild = false := by
  have hF : FREE = 1099511627776 := rfl
  rw [List.any_eq_false]
  intro x hx
  obtain ⟨i, hi, rfl⟩ := List.getElem_of_mem hx
  have := hs i hi
  rw [List.getD_eq_getElem?_getD, List.getElem?_eq_getElem hi] at this
  simp only [Option.getD_some] at this
  unfold wild
  rw [Bool.not_eq_true, Bool.or_eq_false_iff, decide_eq_false_iff_not, decide_eq_false_iff_not]
  omega
theorem rowAt_stand {k i : Nat} (hi : i < k + 1) : Stand n k (rowAt n k i) := by
  unfold rowAt Stand
  split
  · exact .inr rfl
  · exact .inl (by omega)
theorem stand_rowAt {k a : Nat} (h : Stand n k a) : ∃ i, i < k + 1 ∧ rowAt n k i = a := by
  rcases h with h | h
  · exact ⟨a, by omega, by unfold rowAt; rw [if_neg (by omega)]⟩
  · exact ⟨k, by omega, by unfold rowAt; rw [if_pos rfl, h]⟩
theorem rowAt_val {vs : List Int} {i : Nat} (hk : vs.length ≤ n) (hi : i < vs.length + 1) : vs.getD (rowAt n vs.length i) 0 = vs.getD i 0 := by
  unfold rowAt
  split
  · rename_i e
    rw [e, List.getD_eq_getElem?_getD, List.getD_eq_getElem?_getD, List.getElem?_eq_none (by omega), List.getElem?_eq_none (by omega)]
  · rfl
theorem rowAt_lt2 {k i : Nat} (hk : k ≤ n) (hi : i < k + 1) : rowAt n k i < n + 1 := by
  unfold rowAt
  split <;> omega
/-- Range behind values that keep the table. -/
theorem range_keep (hn : n ≤ 10) (hb : Bnd (n + 1) 6400 R) (hc : Clsd (n + 1) (n + 1) R) {vs : List Int} (hk : vs.length < n) (hK : Keep n R vs) (hs : Small vs) :
    ∃ lo hi, rangeS (tabOf (n + 1) R) vs = (lo, hi, 0) ∧ lo ≤ hi ∧ (lo = -1099511627776 ↔ LoFree n R vs.length) ∧ (hi = 1099511627776 ↔ HiFree n R vs.length) ∧
      (¬ LoFree n R vs.length → -(6400 * ((vs.length : Int) + 1)) ≤ lo) ∧ (¬ HiFree n R vs.length → hi ≤ 6400 * ((vs.length : Int) + 1)) ∧
      (∀ v, (lo ≤ v ∨ lo = -1099511627776) → (v ≤ hi ∨ hi = 1099511627776) → (∀ a, Stand n vs.length a → R a vs.length < FREE → vs.getD a 0 ≤ v + R a vs.length) ∧ (∀ a, Stand n vs.length a → R vs.length a < FREE → v ≤ vs.getD a 0 + R vs.length a)) ∧
      (¬ LoFree n R vs.length → ∀ v, (∀ a, Stand n vs.length a → R a vs.length < FREE → vs.getD a 0 ≤ v + R a vs.length) → lo ≤ v) ∧ (¬ HiFree n R vs.length → ∀ v, (∀ a, Stand n vs.length a → R vs.length a < FREE → v ≤ vs.getD a 0 + R vs.length a) → v ≤ hi) := by
  have hF : FREE = 1099511627776 := rfl
  have hvb : ∀ a, Stand n vs.length a → -(6400 * (vs.length : Int)) ≤ vs.getD a 0 ∧ vs.getD a 0 ≤ 6400 * (vs.length : Int) := by
    intro a ha
    by_cases h : a < vs.length
    · have := hs a h
      have h1 : (a : Int) + 1 ≤ (vs.length : Int) := by omega
      omega
    · rw [List.getD_eq_getElem?_getD, List.getElem?_eq_none (by omega)]
      simp only [Option.getD_none]
      omega
  have hkl : vs.length < n + 1 := by omega
  have hst : ∀ a, Stand n vs.length a → a < n + 1 := fun a ha => by unfold Stand at ha; omega
  have hcl : ∀ i, i < vs.length + 1 → cel (tabOf (n + 1) R) (rowAt n vs.length i) vs.length = R (rowAt n vs.length i) vs.length := fun i hi => cel_tab (rowAt_lt2 (by omega) hi) hkl
  have hch : ∀ i, i < vs.length + 1 → cel (tabOf (n + 1) R) vs.length (rowAt n vs.length i) = R vs.length (rowAt n vs.length i) := fun i hi => cel_tab hkl (rowAt_lt2 (by omega) hi)
  unfold rangeS
  rw [good_tab hn hb, small_wild hs (by omega)]
  simp only [Bool.or_self, Bool.false_eq_true, if_false, tabOf_len]
  rw [if_neg (by omega), show n + 1 - 1 = n from rfl]
  -- the least one
  have hlo : (LoFree n R vs.length ∧ (loOf (tabOf (n + 1) R) vs n vs.length (vs.length + 1)).getD (-FREE) = -1099511627776) ∨
      (∃ a, Stand n vs.length a ∧ R a vs.length < FREE ∧ (loOf (tabOf (n + 1) R) vs n vs.length (vs.length + 1)).getD (-FREE) = vs.getD a 0 - R a vs.length ∧ ∀ b, Stand n vs.length b → R b vs.length < FREE → vs.getD b 0 - R b vs.length ≤ vs.getD a 0 - R a vs.length) := by
    cases h : loOf (tabOf (n + 1) R) vs n vs.length (vs.length + 1) with
    | none =>
      refine .inl ⟨fun a ha hf => ?_, by simp [hF]⟩
      obtain ⟨i, hi, rfl⟩ := stand_rowAt ha
      exact loOf_none h i hi (by rw [hcl i hi]; exact hf)
    | some y =>
      obtain ⟨h1, i, h2, h3, h4⟩ := loOf_some h
      rw [hcl i h2] at h3 h4
      rw [← rowAt_val (n := n) (by omega) h2] at h4
      refine .inr ⟨rowAt n vs.length i, rowAt_stand h2, h3, by simp only [Option.getD_some]; exact h4, fun b hb2 hf => ?_⟩
      obtain ⟨j, hj, rfl⟩ := stand_rowAt hb2
      have := h1 j hj (by rw [hcl j hj]; exact hf)
      rw [hcl j hj, ← rowAt_val (n := n) (by omega) hj] at this
      omega
  have hhi : (HiFree n R vs.length ∧ (hiOf (tabOf (n + 1) R) vs n vs.length (vs.length + 1)).getD FREE = 1099511627776) ∨
      (∃ a, Stand n vs.length a ∧ R vs.length a < FREE ∧ (hiOf (tabOf (n + 1) R) vs n vs.length (vs.length + 1)).getD FREE = vs.getD a 0 + R vs.length a ∧ ∀ b, Stand n vs.length b → R vs.length b < FREE → vs.getD a 0 + R vs.length a ≤ vs.getD b 0 + R vs.length b) := by
    cases h : hiOf (tabOf (n + 1) R) vs n vs.length (vs.length + 1) with
    | none =>
      refine .inl ⟨fun a ha hf => ?_, by simp [hF]⟩
      obtain ⟨i, hi, rfl⟩ := stand_rowAt ha
      exact hiOf_none h i hi (by rw [hch i hi]; exact hf)
    | some y =>
      obtain ⟨h1, i, h2, h3, h4⟩ := hiOf_some h
      rw [hch i h2] at h3 h4
      rw [← rowAt_val (n := n) (by omega) h2] at h4
      refine .inr ⟨rowAt n vs.length i, rowAt_stand h2, h3, by simp only [Option.getD_some]; exact h4, fun b hb2 hf => ?_⟩
      obtain ⟨j, hj, rfl⟩ := stand_rowAt hb2
      have := h1 j hj (by rw [hch j hj]; exact hf)
      rw [hch j hj, ← rowAt_val (n := n) (by omega) hj] at this
      omega
  generalize (loOf (tabOf (n + 1) R) vs n vs.length (vs.length + 1)).getD (-FREE) = lo at hlo ⊢
  generalize (hiOf (tabOf (n + 1) R) vs n vs.length (vs.length + 1)).getD FREE = hi at hhi ⊢
  have blo : ∀ a, Stand n vs.length a → R a vs.length < FREE → -(6400 * ((vs.length : Int) + 1)) ≤ vs.getD a 0 - R a vs.length ∧ vs.getD a 0 - R a vs.length ≤ 6400 * ((vs.length : Int) + 1) := by
    intro a ha hf
    have h1 := hvb a ha
    have h2 := hb a vs.length (hst a ha) hkl
    have h3 := h2.2.2 hf
    omega
  have bhi : ∀ a, Stand n vs.length a → R vs.length a < FREE → -(6400 * ((vs.length : Int) + 1)) ≤ vs.getD a 0 + R vs.length a ∧ vs.getD a 0 + R vs.length a ≤ 6400 * ((vs.length : Int) + 1) := by
    intro a ha hf
    have h1 := hvb a ha
    have h2 := hb vs.length a hkl (hst a ha)
    have h3 := h2.2.2 hf
    omega
  have hle : lo ≤ hi := by
    rcases hlo with ⟨-, e1⟩ | ⟨a, ha, hfa, e1, -⟩
    · rcases hhi with ⟨-, e2⟩ | ⟨b, hb2, hfb, e2, -⟩
      · omega
      · have := bhi b hb2 hfb; omega
    · have la := blo a ha hfa
      rcases hhi with ⟨-, e2⟩ | ⟨b, hb2, hfb, e2, -⟩
      · omega
      · have c1 := hc vs.length hkl a b (hst a ha) (hst b hb2) hfa hfb
        have b1 := (hb a vs.length (hst a ha) hkl).2.2 hfa
        have b2 := (hb vs.length b hkl (hst b hb2)).2.2 hfb
        have := hK a b ha hb2 (by omega)
        omega
  rw [if_neg (by omega)]
  have loiff : lo = -1099511627776 ↔ LoFree n R vs.length := by
    rcases hlo with ⟨h1, e1⟩ | ⟨a, ha, hfa, e1, -⟩
    · exact ⟨fun _ => h1, fun _ => e1⟩
    · have la := blo a ha hfa
      exact ⟨fun e => by omega, fun h => absurd hfa (h a ha)⟩
  have hiiff : hi = 1099511627776 ↔ HiFree n R vs.length := by
    rcases hhi with ⟨h1, e1⟩ | ⟨a, ha, hfa, e1, -⟩
    · exact ⟨fun _ => h1, fun _ => e1⟩
    · have la := bhi a ha hfa
      exact ⟨fun e => by omega, fun h => absurd hfa (h a ha)⟩
  refine ⟨lo, hi, rfl, hle, loiff, hiiff, fun hnf => ?_, fun hnf => ?_, fun v hv1 hv2 => ⟨fun a ha hf => ?_, fun a ha hf => ?_⟩, fun hnf v hv => ?_, fun hnf v hv => ?_⟩
  · rcases hlo with ⟨h1, e1⟩ | ⟨a, ha, hfa, e1, -⟩
    · exact absurd h1 hnf
    · have := blo a ha hfa; omega
  · rcases hhi with ⟨h1, e1⟩ | ⟨a, ha, hfa, e1, -⟩
    · exact absurd h1 hnf
    · have := bhi a ha hfa; omega
  · rcases hlo with ⟨h1, e1⟩ | ⟨b, hb2, hfb, e1, e2⟩
    · exact absurd hf (h1 a ha)
    · have h1 := e2 a ha hf
      have h2 := blo b hb2 hfb
      omega
  · rcases hhi with ⟨h1, e1⟩ | ⟨b, hb2, hfb, e1, e2⟩
    · exact absurd hf (h1 a ha)
    · have h1 := e2 a ha hf
      have h2 := bhi b hb2 hfb
      omega
  · rcases hlo with ⟨h1, e1⟩ | ⟨b, hb2, hfb, e1, e2⟩
    · exact absurd h1 hnf
    · have := hv b hb2 hfb; omega
  · rcases hhi with ⟨h1, e1⟩ | ⟨b, hb2, hfb, e1, e2⟩
    · exact absurd h1 hnf
    · have := hv b hb2 hfb; omega
/-- One value more. -/
theorem keep_snoc (hd : ∀ a, a < n + 1 → R a a = 0) {vs : List Int} (hk : vs.length < n) (hK : Keep n R vs) {v : Int} (h1 : ∀ a, Stand n vs.length a → R a vs.length < FREE → vs.getD a 0 ≤ v + R a vs.length) (h2 : ∀ a, Stand n vs.length a → R vs.length a < FREE → v ≤ vs.getD a 0 + R vs.length a) : Keep n R (vs ++ [v]) := by
  have gold : ∀ a, Stand n vs.length a → (vs ++ [v]).getD a 0 = vs.getD a 0 := by
    intro a ha
    rw [List.getD_eq_getElem?_getD, List.getD_eq_getElem?_getD, List.getElem?_append]
    by_cases h : a < vs.length
    · rw [if_pos h]
    · rw [if_neg h]
      have : a = n := by unfold Stand at ha; omega
      rw [List.getElem?_eq_none (by simp; omega), List.getElem?_eq_none (by omega)]
  have gnew : (vs ++ [v]).getD vs.length 0 = v := by
    rw [List.getD_eq_getElem?_getD, List.getElem?_append_right (Nat.le_refl _)]
    simp
  have hcase : ∀ a, Stand n (vs ++ [v]).length a → Stand n vs.length a ∨ a = vs.length := by
    intro a ha
    unfold Stand at ha ⊢
    rw [List.length_append, List.length_singleton] at ha
    omega
  intro a b ha hb hf
  rcases hcase a ha with ga | ga <;> rcases hcase b hb with gb | gb
  · rw [gold a ga, gold b gb]; exact hK a b ga gb hf
  · subst gb
    rw [gold a ga, gnew]; exact h1 a ga hf
  · subst ga
    rw [gold b gb, gnew]; exact h2 b gb hf
  · subst ga gb
    rw [gnew, hd _ (by omega)]; omega
theorem small_snoc {vs : List Int} (hs : Small vs) {v : Int} (h1 : -(6400 * ((vs.length : Int) + 1)) ≤ v) (h2 : v ≤ 6400 * ((vs.length : Int) + 1)) : Small (vs ++ [v]) := by
  intro i hi
  rw [List.length_append, List.length_singleton] at hi
  rw [List.getD_eq_getElem?_getD, List.getElem?_append]
  by_cases h : i < vs.length
  · rw [if_pos h]
    have := hs i h
    rwa [List.getD_eq_getElem?_getD] at this
  · have : i = vs.length := by omega
    subst this
    rw [if_neg h]
    simp only [Nat.sub_self, List.getElem?_cons_zero, Option.getD_some]
    exact ⟨h1, h2⟩
/-- What is taken lies within the bounds; the difference to the least one leads back. -/
def takeP (lo hi pick : Int) : Int := wrap64 (lo + (Int.tmod (wrap64 (pick + (wrap64 ((wrap64 (hi - lo)) + 1)))) (wrap64 ((wrap64 (hi - lo)) + 1))))
theorem takeP_in {lo hi q : Int} (h : lo ≤ hi) (h1 : -100000 ≤ lo) (h2 : hi ≤ 100000) (hq1 : -(hi - lo + 1) < q) (hq2 : q < hi - lo + 1) : lo ≤ takeP lo hi q ∧ takeP lo hi q ≤ hi := by
  unfold takeP
  rw [wrapOk (hi - lo) (by omega) (by omega), wrapOk (hi - lo + 1) (by omega) (by omega), wrapOk (q + (hi - lo + 1)) (by omega) (by omega)]
  have := tmod_in (v := q + (hi - lo + 1)) (m := hi - lo + 1) (by omega) (by omega)
  rw [wrapOk _ (by omega) (by omega)]
  omega
theorem takeP_back {lo hi v : Int} (h : lo ≤ v) (h' : v ≤ hi) (h1 : -100000 ≤ lo) (h2 : hi ≤ 100000) : takeP lo hi (Int.tmod (v - lo) (hi - lo + 1)) = v := by
  unfold takeP
  have e1 : Int.tmod (v - lo) (hi - lo + 1) = v - lo := by
    rw [Int.tmod_eq_emod_of_nonneg (by omega)]
    exact Int.emod_eq_of_lt (by omega) (by omega)
  rw [e1, wrapOk (hi - lo) (by omega) (by omega), wrapOk (hi - lo + 1) (by omega) (by omega), wrapOk (v - lo + (hi - lo + 1)) (by omega) (by omega)]
  have e2 : Int.tmod (v - lo + (hi - lo + 1)) (hi - lo + 1) = v - lo := by
    rw [Int.tmod_eq_emod_of_nonneg (by omega), Int.add_emod_right]
    exact Int.emod_eq_of_lt (by omega) (by omega)
  rw [e2, wrapOk _ (by omega) (by omega)]
  omega
theorem tmod_abs (x m : Int) (hm : 1 ≤ m) : -m < Int.tmod x m ∧ Int.tmod x m < m := by
  have h1 := Int.tmod_lt_of_pos x (show 0 < m by omega)
  have h2 := Int.lt_tmod_of_pos x (show 0 < m by omega)
  exact ⟨by omega, h1⟩
/-- Some row is free of a bound, from k on. -/
def AnyFree (n : Nat) (R : Tb) (k : Nat) : Prop := ∃ j, k ≤ j ∧ j < n ∧ (LoFree n R j ∨ HiFree n R j)
/-- One round of Fill. -/
theorem fill_step (hn : n ≤ 10) (hb : Bnd (n + 1) 6400 R) (hc : Clsd (n + 1) (n + 1) R) {picks : List Int} {vs : List Int} (hk : vs.length < n) (hK : Keep n R vs) (hs : Small vs) {lo hi : Int} (hr : rangeS (tabOf (n + 1) R) vs = (lo, hi, 0)) (h1 : -100000 ≤ lo) (h2 : hi ≤ 100000) (hle : lo ≤ hi) {q : List Int × Int}
    (h : Ev (fun f => bounds_Fill.l0 f picks (tabOf (n + 1) R) (vs ++ [takeP lo hi (if (vs.length : Int) < (picks.length : Int) then Int.tmod (rd picks (vs.length : Int)) (hi - lo + 1) else 0)]) (n : Int) ((vs.length + 1 : Nat) : Int)) q) :
    Ev (fun f => bounds_Fill.l0 f picks (tabOf (n + 1) R) vs (n : Int) (vs.length : Int)) q := by
  have hrf : bounds_Range.f (tabOf (n + 1) R) vs = some (lo, hi, 0) := by unfold bounds_Range.f; rw [hr]
  have hj : Ev (fun f => bounds_Fill.j1 f picks (tabOf (n + 1) R) vs (vs.length : Int) lo hi (n : Int) (vs.length : Int) false) q := by
    refine Ev.step (fun f => ?_) h
    have ew : wrap64 (wrap64 (hi - lo) + 1) = hi - lo + 1 := by rw [wrapOk (hi - lo) (by omega) (by omega), wrapOk (hi - lo + 1) (by omega) (by omega)]
    rw [bounds_Fill.j1, if_neg (by simp), if_neg (show ¬ wrap64 (wrap64 (hi - lo) + 1) = 0 by rw [ew]; omega), if_pos (show vs.length < 17592186044416 by omega), wrap_nat vs.length (by omega)]
    unfold takeP
    by_cases hp : (vs.length : Int) < (picks.length : Int)
    · rw [if_pos hp, if_pos (by omega), if_pos hp, ew]
    · rw [if_neg hp, if_neg hp, if_neg (show ¬ wrap64 (wrap64 (hi - lo) + 1) = 0 by rw [ew]; omega), if_pos (show vs.length < 17592186044416 by omega), Int.zero_emod]
  refine Ev.step (fun f => ?_) hj
  rw [bounds_Fill.l0, if_pos (by omega), hrf, Option.bind_some, if_pos rfl, if_neg (by omega)]
  rw [show (hi == (1099511627776 : Int)) = false from by simp; omega]
theorem fill_free (hn : n ≤ 10) {picks : List Int} {vs : List Int} (hk : vs.length < n) {lo hi : Int} (hr : rangeS (tabOf (n + 1) R) vs = (lo, hi, 0)) (hfree : lo = -1099511627776 ∨ hi = 1099511627776) :
    Ev (fun f => bounds_Fill.l0 f picks (tabOf (n + 1) R) vs (n : Int) (vs.length : Int)) ([], 5) := by
  have hrf : bounds_Range.f (tabOf (n + 1) R) vs = some (lo, hi, 0) := by unfold bounds_Range.f; rw [hr]
  have hj : Ev (fun f => bounds_Fill.j1 f picks (tabOf (n + 1) R) vs (vs.length : Int) lo hi (n : Int) (vs.length : Int) true) ([], 5) := by
    refine Ev.step (f := fun _ => some ([], 5)) (fun f => ?_) (Ev.now _)
    rw [bounds_Fill.j1, if_pos rfl]
  refine Ev.step (fun f => ?_) hj
  rw [bounds_Fill.l0, if_pos (by omega), hrf, Option.bind_some, if_pos rfl]
  by_cases h : lo = -1099511627776
  · rw [if_pos h]
  · rw [if_neg h]
    rcases hfree with e | e
    · exact absurd e h
    · rw [show (hi == (1099511627776 : Int)) = true from by simp [e]]
/-- Fill: an error where a row is free, else values that keep the table. -/
theorem fill_run (hn : n ≤ 10) (hb : Bnd (n + 1) 6400 R) (hc : Clsd (n + 1) (n + 1) R) (hd : ∀ a, a < n + 1 → R a a = 0) (picks : List Int) : ∀ (e : Nat) (vs : List Int), vs.length + e = n → Keep n R vs → Small vs →
    ∃ q, Ev (fun f => bounds_Fill.l0 f picks (tabOf (n + 1) R) vs (n : Int) (vs.length : Int)) q ∧ ((q = ([], 5) ∧ AnyFree n R vs.length) ∨ (q.2 = 0 ∧ q.1.length = n ∧ Keep n R q.1 ∧ Small q.1 ∧ ¬ AnyFree n R vs.length))
  | 0, vs, he, hK, hs => by
    refine ⟨(vs, 0), Ev.step (f := fun _ => some (vs, 0)) (fun f => ?_) (Ev.now _), .inr ⟨rfl, by show vs.length = n; omega, hK, hs, fun ⟨j, h1, h2, _⟩ => by omega⟩⟩
    rw [bounds_Fill.l0, if_neg (by omega)]
  | e + 1, vs, he, hK, hs => by
    have hk : vs.length < n := by omega
    obtain ⟨lo, hi, hr, hle, l1, l2, l3, l4, l5, -, -⟩ := range_keep hn hb hc hk hK hs
    by_cases hf : LoFree n R vs.length ∨ HiFree n R vs.length
    · exact ⟨([], 5), fill_free hn hk hr (hf.imp l1.2 l2.2), .inl ⟨rfl, vs.length, Nat.le_refl _, hk, hf⟩⟩
    · have f1 : ¬ LoFree n R vs.length := fun h => hf (.inl h)
      have f2 : ¬ HiFree n R vs.length := fun h => hf (.inr h)
      have g1 := l3 f1
      have g2 := l4 f2
      have b1 : -100000 ≤ lo := by omega
      have b2 : hi ≤ 100000 := by omega
      obtain ⟨t, ht⟩ : ∃ t, (if (vs.length : Int) < (picks.length : Int) then Int.tmod (rd picks (vs.length : Int)) (hi - lo + 1) else 0) = t := ⟨_, rfl⟩
      have ht2 : -(hi - lo + 1) < t ∧ t < hi - lo + 1 := by
        rw [← ht]
        split
        · exact tmod_abs _ _ (by omega)
        · omega
      obtain ⟨v, hv⟩ : ∃ v, takeP lo hi t = v := ⟨_, rfl⟩
      have hv2 := takeP_in hle b1 b2 ht2.1 ht2.2
      rw [hv] at hv2
      have hkeep := l5 v (.inl hv2.1) (.inl hv2.2)
      have hstep := @fill_step n R hn hb hc picks vs hk hK hs lo hi hr b1 b2 hle
      rw [ht, hv] at hstep
      have elen : (vs ++ [v]).length = vs.length + 1 := by simp
      obtain ⟨q, hq, hq2⟩ := fill_run hn hb hc hd picks e (vs ++ [v]) (by rw [elen]; omega) (keep_snoc hd hk hK hkeep.1 hkeep.2) (small_snoc hs (by omega) (by omega))
      rw [elen] at hq hq2
      refine ⟨q, hstep hq, ?_⟩
      have hany : AnyFree n R (vs.length + 1) ↔ AnyFree n R vs.length := by
        constructor
        · rintro ⟨j, h1, h2, h3⟩
          exact ⟨j, by omega, h2, h3⟩
        · rintro ⟨j, h1, h2, h3⟩
          by_cases ej : j = vs.length
          · subst ej; exact absurd h3 hf
          · exact ⟨j, by omega, h2, h3⟩
      rw [hany] at hq2
      exact hq2
/-! The way back: values that keep the table are those of their differences to the least ones. -/
theorem keep_take {vs : List Int} (hl : vs.length ≤ n) (hK : Keep n R vs) (k : Nat) (hk : k ≤ vs.length) : Keep n R (vs.take k) := by
  have g : ∀ a, Stand n k a → (vs.take k).getD a 0 = vs.getD a 0 := by
    intro a ha
    rw [List.getD_eq_getElem?_getD, List.getD_eq_getElem?_getD, List.getElem?_take]
    by_cases h : a < k
    · rw [if_pos h]
    · rw [if_neg h]
      have : a = n := by unfold Stand at ha; omega
      rw [List.getElem?_eq_none (by omega)]
  have e : (vs.take k).length = k := by rw [List.length_take]; omega
  intro a b ha hb hf
  rw [e] at ha hb
  rw [g a ha, g b hb]
  exact hK a b (by unfold Stand at ha ⊢; omega) (by unfold Stand at hb ⊢; omega) hf
theorem small_take {vs : List Int} (hs : Small vs) (k : Nat) : Small (vs.take k) := by
  intro i hi
  rw [List.length_take] at hi
  have := hs i (by omega)
  rw [List.getD_eq_getElem?_getD, List.getElem?_take, if_pos (by omega)]
  rwa [List.getD_eq_getElem?_getD] at this
/-- What Range gives behind the first k of values that keep the table. -/
theorem range_at (hn : n ≤ 10) (hb : Bnd (n + 1) 6400 R) (hc : Clsd (n + 1) (n + 1) R) {vs : List Int} (hl : vs.length = n) (hK : Keep n R vs) (hs : Small vs) (hfree : ¬ AnyFree n R 0) {k : Nat} (hk : k < n) :
    ∃ lo hi, rangeS (tabOf (n + 1) R) (vs.take k) = (lo, hi, 0) ∧ lo ≤ vs.getD k 0 ∧ vs.getD k 0 ≤ hi ∧ -100000 ≤ lo ∧ hi ≤ 100000 := by
  have e : (vs.take k).length = k := by rw [List.length_take]; omega
  have hK2 := keep_take (by omega) hK k (by omega)
  obtain ⟨lo, hi, hr, hle, l1, l2, l3, l4, l5, l6, l7⟩ := range_keep hn hb hc (by omega) hK2 (small_take hs k)
  rw [e] at l1 l2 l3 l4 l5 l6 l7
  have g : ∀ a, Stand n k a → (vs.take k).getD a 0 = vs.getD a 0 := by
    intro a ha
    rw [List.getD_eq_getElem?_getD, List.getD_eq_getElem?_getD, List.getElem?_take]
    by_cases h : a < k
    · rw [if_pos h]
    · rw [if_neg h]
      have : a = n := by unfold Stand at ha; omega
      rw [List.getElem?_eq_none (by omega)]
  have f1 : ¬ LoFree n R k := fun h => hfree ⟨k, Nat.zero_le _, hk, .inl h⟩
  have f2 : ¬ HiFree n R k := fun h => hfree ⟨k, Nat.zero_le _, hk, .inr h⟩
  have sk : Stand n vs.length k := .inl (by omega)
  have sa : ∀ a, Stand n k a → Stand n vs.length a := fun a ha => by unfold Stand at ha ⊢; omega
  refine ⟨lo, hi, hr, l6 f1 _ (fun a ha hf => ?_), l7 f2 _ (fun a ha hf => ?_), by have := l3 f1; omega, by have := l4 f2; omega⟩
  · rw [g a ha]; exact hK a k (sa a ha) sk hf
  · rw [g a ha]; exact hK k a sk (sa a ha) hf
theorem fill_back (hn : n ≤ 10) (hb : Bnd (n + 1) 6400 R) (hc : Clsd (n + 1) (n + 1) R) {vs : List Int} (hl : vs.length = n) (hK : Keep n R vs) (hs : Small vs) (hfree : ¬ AnyFree n R 0) {picks : List Int} (hpl : picks.length = n)
    (hp : ∀ k, k < n → rd picks (k : Int) = vs.getD k 0 - (rangeS (tabOf (n + 1) R) (vs.take k)).1) : ∀ (e k : Nat), k + e = n →
    Ev (fun f => bounds_Fill.l0 f picks (tabOf (n + 1) R) (vs.take k) (n : Int) (k : Int)) (vs, 0)
  | 0, k, he => by
    have e1 : vs.take k = vs := List.take_of_length_le (by omega)
    rw [e1]
    refine Ev.step (f := fun _ => some (vs, 0)) (fun f => ?_) (Ev.now _)
    rw [bounds_Fill.l0, if_neg (by omega)]
  | e + 1, k, he => by
    have hk : k < n := by omega
    have hlen : (vs.take k).length = k := by rw [List.length_take]; omega
    obtain ⟨lo, hi, hr, h1, h2, h3, h4⟩ := range_at hn hb hc hl hK hs hfree hk
    have ih := fill_back hn hb hc hl hK hs hfree hpl hp e (k + 1) (by omega)
    have hstep := @fill_step n R hn hb hc picks (vs.take k) (by omega) (keep_take (by omega) hK k (by omega)) (small_take hs k) lo hi hr h3 h4 (by omega) (vs, 0)
    rw [hlen] at hstep
    have hpk := hp k hk
    rw [hr] at hpk
    simp only at hpk
    rw [if_pos (by omega), hpk, takeP_back h1 h2 h3 h4] at hstep
    refine hstep ?_
    have e2 : vs.take k ++ [vs.getD k 0] = vs.take (k + 1) := by
      rw [List.take_succ_eq_append_getElem (show k < vs.length by omega), List.getD_eq_getElem?_getD, List.getElem?_eq_getElem (show k < vs.length by omega)]
      rfl
    rw [e2]
    exact ih
end
end Go.Proofs.Ytcnkjcbjlopkmaa.Q
