/- The closure of a table, as plain functions: the program's and the reference's ways through it come to the same. -/
import Derived.Test.YtcnkjcbjlopkmaaEdg
namespace Go.Proofs.Ytcnkjcbjlopkmaa.Q
open Go.RowKit Go.Proofs.YtcnkjcbjlopkmaaW.PrintWords Go.Proofs.YtcnkjcbjlopkmaaW.PrintLast Go.Proofs.YtcnkjcbjlopkmaaW.PrintMore
set_option linter.unusedVariables false
set_option linter.unusedSimpArgs false
abbrev Tb := Nat → Nat → Int
def upd (T : Tb) (i k : Nat) (v : Int) : Tb := fun a b => if a = i ∧ b = k then v else T a b
def rowR (j i : Nat) : Nat → Nat → Tb → Tb
 | 0, _, T => T
 | d + 1, k, T => rowR j i d (k + 1) (if T i j < FREE ∧ T j k < FREE then upd T i k (mn (T i k) (wrap64 (T i j + T j k))) else T)
def rowsR (N : Nat) (j : Nat) : Nat → Nat → Tb → Tb
 | 0, _, T => T
 | d + 1, i, T => rowsR N j d (i + 1) (rowR j i N 0 T)
def stepsR (N : Nat) : Nat → Nat → Tb → Tb
 | 0, _, T => T
 | d + 1, j, T => stepsR N d (j + 1) (rowsR N j N 0 T)
theorem upd_le (T : Tb) (i k : Nat) (x : Int) (a b : Nat) : upd T i k (mn (T i k) x) a b ≤ T a b := by
 unfold upd
 split
 ·rename_i h
  rw [h.1, h.2]
  exact (mn_le' _ _).1
 ·exact Int.le_refl _
theorem rowR_le (j i : Nat) : ∀ d k T a b, rowR j i d k T a b ≤ T a b
 | 0, _, T, a, b => Int.le_refl _
 | d + 1, k, T, a, b => by
  refine Int.le_trans (rowR_le j i d (k + 1) _ a b) ?_
  split
  ·exact upd_le _ _ _ _ _ _
  ·exact Int.le_refl _
theorem rowsR_le (N : Nat) (j : Nat) : ∀ d i T a b, rowsR N j d i T a b ≤ T a b
 | 0, _, T, a, b => Int.le_refl _
 | d + 1, i, T, a, b => Int.le_trans (rowsR_le N j d (i + 1) _ a b) (rowR_le _ _ _ _ _ _ _)
def PN (N : Nat) (j : Nat) (T : Tb) : Tb := fun a b => if a < N ∧ b < N ∧ T a j < FREE ∧ T j b < FREE then mn (T a b) (T a j + T j b) else T a b
def NoW (N j : Nat) (T : Tb) : Prop := ∀ a b, a < N → b < N → T a j < FREE → T j b < FREE → wrap64 (T a j + T j b) = T a j + T j b
theorem mn_left {x y : Int} (h : x ≤ y) : mn x y = x := by unfold mn; rw [if_neg (by omega)]
def patK (T : Tb) (thr : Nat → Int) (j i k : Nat) : Tb := fun a b => if a = i ∧ b < k ∧ thr b < FREE then mn (T i b) (T i j + thr b) else T a b
theorem patK_j (T : Tb) (thr : Nat → Int) (j i k : Nat) (h : 0 ≤ thr j) : patK T thr j i k i j = T i j := by
 unfold patK
 split
 ·exact mn_left (by omega)
 ·rfl
theorem patK_succ (T : Tb) (thr : Nat → Int) (j i k : Nat) (h : thr k < FREE) : upd (patK T thr j i k) i k (mn (T i k) (T i j + thr k)) = patK T thr j i (k + 1) := by
 funext a b
 unfold upd patK
 by_cases h1 : a = i ∧ b = k
 ·obtain ⟨h1, h2⟩ := h1
  subst h1 h2
  rw [if_pos ⟨rfl, rfl⟩, if_pos ⟨rfl, by omega, h⟩]
 ·rw [if_neg h1]
  by_cases h2 : a = i ∧ b < k ∧ thr b < FREE
  ·rw [if_pos h2, if_pos ⟨h2.1, by omega, h2.2.2⟩]
  ·rw [if_neg h2, if_neg (fun hh => h2 ⟨hh.1, by have := hh.2.1; have h3 : ¬ b = k := fun e => h1 ⟨hh.1, e⟩; omega, hh.2.2⟩)]
theorem patK_skip (T : Tb) (thr : Nat → Int) (j i k : Nat) (h : ¬ thr k < FREE) : patK T thr j i k = patK T thr j i (k + 1) := by
 funext a b
 unfold patK
 by_cases h2 : a = i ∧ b < k ∧ thr b < FREE
 ·rw [if_pos h2, if_pos ⟨h2.1, by omega, h2.2.2⟩]
 ·rw [if_neg h2, if_neg (fun hh => h2 ⟨hh.1, by have := hh.2.1; have h3 : ¬ b = k := fun e => h (e ▸ hh.2.2); omega, hh.2.2⟩)]
def patI (N : Nat) (T : Tb) (thr : Nat → Int) (j i : Nat) : Tb := fun a b => if a < i ∧ b < N ∧ T a j < FREE ∧ thr b < FREE then mn (T a b) (T a j + thr b) else T a b
theorem patI_row (N : Nat) (T : Tb) (thr : Nat → Int) (j i : Nat) (h : T i j < FREE) : patK (patI N T thr j i) thr j i N = patI N T thr j (i + 1) := by
 funext a b
 unfold patK patI
 by_cases h1 : a = i
 ·subst h1
  by_cases h2 : b < N ∧ thr b < FREE
  ·rw [if_pos ⟨rfl, h2⟩, if_neg (by omega), if_neg (by omega), if_pos ⟨by omega, h2.1, h, h2.2⟩]
  ·rw [if_neg (fun hh => h2 hh.2), if_neg (by omega), if_neg (fun hh => h2 ⟨hh.2.1, hh.2.2.2⟩)]
 ·rw [if_neg (fun hh => h1 hh.1)]
  by_cases h2 : a < i ∧ b < N ∧ T a j < FREE ∧ thr b < FREE
  ·rw [if_pos h2, if_pos ⟨by omega, h2.2⟩]
  ·rw [if_neg h2, if_neg (fun hh => h2 ⟨by have := hh.1; omega, hh.2⟩)]
theorem patI_skip (N : Nat) (T : Tb) (thr : Nat → Int) (j i : Nat) (h : ¬ T i j < FREE) : patI N T thr j i = patI N T thr j (i + 1) := by
 funext a b
 unfold patI
 by_cases h2 : a < i ∧ b < N ∧ T a j < FREE ∧ thr b < FREE
 ·rw [if_pos h2, if_pos ⟨by omega, h2.2⟩]
 ·rw [if_neg h2, if_neg (fun hh => h2 ⟨by have := hh.1; have h3 : ¬ a = i := fun e => h (e ▸ hh.2.2.1); omega, hh.2⟩)]
theorem patI_zero (N : Nat) (T : Tb) (thr : Nat → Int) (j : Nat) : patI N T thr j 0 = T := by funext a b; unfold patI; rw [if_neg (by omega)]
theorem rowR_eq (N : Nat) (T : Tb) (j i : Nat) (h0 : 0 ≤ T j j) (hf : T i j < FREE) (hw : ∀ b, b < N → T j b < FREE → wrap64 (T i j + T j b) = T i j + T j b) :
  ∀ d k, k + d = N → rowR j i d k (patK T (T j) j i k) = patK T (T j) j i N
 | 0, k, hk => by rw [show k = N by omega]; rfl
 | d + 1, k, hk => by
  unfold rowR
  have e1 : patK T (T j) j i k i k = T i k := by unfold patK; rw [if_neg (by omega)]
  have e2 : patK T (T j) j i k j k = T j k := by unfold patK; rw [if_neg (by omega)]
  rw [patK_j T (T j) j i k h0, e2, e1]
  by_cases h : T j k < FREE
  ·rw [if_pos ⟨hf, h⟩, hw k (by omega) h, patK_succ T (T j) j i k h]
   exact rowR_eq N T j i h0 hf hw d (k + 1) (by omega)
  ·rw [if_neg (fun hh => h hh.2), patK_skip T (T j) j i k h]
   exact rowR_eq N T j i h0 hf hw d (k + 1) (by omega)
theorem rowR_skip (N : Nat) (T : Tb) (j i : Nat) (hf : ¬ T i j < FREE) : ∀ d k, rowR j i d k T = T
 | 0, k => rfl
 | d + 1, k => by
  unfold rowR
  rw [if_neg (fun hh => hf hh.1)]
  exact rowR_skip N T j i hf d (k + 1)
theorem patI_j (N : Nat) (T : Tb) (j i b : Nat) (h0 : 0 ≤ T j j) : patI N T (T j) j i j b = T j b := by
 unfold patI
 split
 ·exact mn_left (by omega)
 ·rfl
theorem rowsR_eq (N : Nat) (T : Tb) (j : Nat) (h0 : 0 ≤ T j j) (hw : NoW N j T) : ∀ d i, i + d = N → rowsR N j d i (patI N T (T j) j i) = patI N T (T j) j N
 | 0, i, hi => by rw [show i = N by omega]; rfl
 | d + 1, i, hi => by
  have e1 : ∀ b, patI N T (T j) j i i b = T i b := fun b => by unfold patI; rw [if_neg (by omega)]
  have ej : patI N T (T j) j i j = T j := funext fun b => patI_j N T j i b h0
  unfold rowsR
  by_cases h : T i j < FREE
  ·have e2 : patI N T (T j) j i = patK (patI N T (T j) j i) (patI N T (T j) j i j) j i 0 := by funext a b; unfold patK; rw [if_neg (by omega)]
   have := rowR_eq N (patI N T (T j) j i) j i (by rw [ej]; exact h0) (by rw [e1]; exact h) (fun b hb hf => by rw [e1, ej]; rw [ej] at hf; exact hw i b (by omega) hb h hf) N 0 (by omega)
   rw [← e2] at this
   rw [this, ej, patI_row N T (T j) j i h]
   exact rowsR_eq N T j h0 hw d (i + 1) (by omega)
  ·rw [rowR_skip N _ j i (by rw [e1]; exact h), patI_skip N T (T j) j i h]
   exact rowsR_eq N T j h0 hw d (i + 1) (by omega)
theorem stepR_eq (N : Nat) (T : Tb) (j : Nat) (h0 : 0 ≤ T j j) (hw : NoW N j T) : rowsR N j N 0 T = PN N j T := by
 have := rowsR_eq N T j h0 hw N 0 (by omega)
 rw [patI_zero] at this
 exact this
def Bnd (N : Nat) (B : Int) (T : Tb) : Prop := ∀ a b, a < N → b < N → -B ≤ T a b ∧ T a b ≤ FREE ∧ (T a b < FREE → T a b ≤ B)
theorem Bnd.now {N : Nat} {B : Int} {T : Tb} (h : Bnd N B T) (hB : B ≤ 549755813888) (j : Nat) (hj : j < N) : NoW N j T := by
 intro a b ha hb h1 h2
 have := h a j ha hj
 have := h j b hj hb
 exact wrapOk _ (by omega) (by omega)
theorem Bnd.step {N : Nat} {B : Int} {T : Tb} (h : Bnd N B T) (h0 : 0 ≤ B) (hB : B ≤ 549755813888) (j : Nat) (hj : j < N) : Bnd N (2 * B) (PN N j T) := by
 intro a b ha hb
 have h1 := h a j ha hj
 have h2 := h j b hj hb
 have h3 := h a b ha hb
 unfold PN
 split
 ·rename_i hh
  have h4 := mn_le' (T a b) (T a j + T j b)
  have h5 := h1.2.2 hh.2.2.1
  have h6 := h2.2.2 hh.2.2.2
  refine ⟨by omega, by omega, fun hf => ?_⟩
  rcases h4.2.2 with e | e
  ·rw [e] at hf ⊢
   have := h3.2.2 hf
   omega
  ·omega
 ·exact ⟨by omega, h3.2.1, fun hf => by have := h3.2.2 hf; omega⟩
def run (N : Nat) (T : Tb) : Nat → Tb
 | 0 => T
 | j + 1 => PN N j (run N T j)
def pow2 : Nat → Int
 | 0 => 2097152
 | j + 1 => 2 * pow2 j
theorem pow2_pos : ∀ j, 0 ≤ pow2 j
 | 0 => by decide
 | j + 1 => by have := pow2_pos j; simp only [pow2]; omega
theorem pow2_mono (j : Nat) : ∀ k, pow2 j ≤ pow2 (j + k)
 | 0 => Int.le_refl _
 | k + 1 => by have := pow2_mono j k; have := pow2_pos (j + k); show _ ≤ 2 * pow2 (j + k); omega
theorem pow2_le (j : Nat) (h : j ≤ 11) : pow2 j ≤ 4294967296 := by
 have := pow2_mono j (11 - j)
 rw [show j + (11 - j) = 11 by omega] at this
 exact Int.le_trans this (by decide)
theorem run_bnd {N : Nat} {T : Tb} (h : Bnd N 2097152 T) (hN : N ≤ 11) : ∀ j, j ≤ N → Bnd N (pow2 j) (run N T j)
 | 0, _ => h
 | j + 1, hj => (run_bnd h hN j (by omega)).step (pow2_pos j) (Int.le_trans (pow2_le j (by omega)) (by decide)) j (by omega)
def negB (N : Nat) (T : Tb) : Bool := (List.range N).any fun i => decide (T i i < 0)
theorem negB_iff (N : Nat) (T : Tb) : negB N T = true ↔ ∃ i, i < N ∧ T i i < 0 := by
 simp [negB, List.any_eq_true]
theorem negB_le {N : Nat} {T S : Tb} (h : ∀ a b, S a b ≤ T a b) (hn : negB N T = true) : negB N S = true := by
 obtain ⟨i, hi, h1⟩ := (negB_iff N T).1 hn
 exact (negB_iff N S).2 ⟨i, hi, by have := h i i; omega⟩
theorem PN_le (N j : Nat) (T : Tb) (a b : Nat) : PN N j T a b ≤ T a b := by
 unfold PN
 split
 ·exact (mn_le' _ _).1
 ·exact Int.le_refl _
theorem nonneg_of {N : Nat} {T : Tb} (h : negB N T = false) (i : Nat) (hi : i < N) : 0 ≤ T i i := by
 have : ¬ T i i < 0 := fun hh => by
  have := (negB_iff N T).2 ⟨i, hi, hh⟩
  rw [h] at this
  cases this
 omega
def Same (N : Nat) (S R : Tb) : Prop := S = R ∨ (negB N S = true ∧ negB N R = true)
theorem stepsR_run {N : Nat} {T : Tb} (hb : Bnd N 2097152 T) (hN : N ≤ 11) : ∀ d j S, j + d = N → Same N S (run N T j) → Same N (stepsR N d j S) (run N T N)
 | 0, j, S, hj, hs => by rw [show j = N by omega] at hs; exact hs
 | d + 1, j, S, hj, hs => by
  refine stepsR_run hb hN d (j + 1) _ (by omega) ?_
  have hnow := (run_bnd hb hN j (by omega)).now (Int.le_trans (pow2_le j (by omega)) (by decide)) j (by omega)
  cases hn : negB N (run N T j) with
  | true =>
   have hS : negB N S = true := by
    rcases hs with rfl | h
    ·exact hn
    ·exact h.1
   exact .inr ⟨negB_le (rowsR_le _ _ _ _ _) hS, negB_le (PN_le _ _ _) hn⟩
  | false =>
   rcases hs with rfl | h
   ·exact .inl (stepR_eq N _ j (nonneg_of hn j (by omega)) hnow)
   ·rw [hn] at h
    cases h.2
end Go.Proofs.Ytcnkjcbjlopkmaa.Q
