import Derived.Test.YtcnkjcbjlopkmaaWlk
namespace Go.Proofs.Ytcnkjcbjlopkmaa.Q
open Go.RowKit Go.Proofs.YtcnkjcbjlopkmaaW.PrintWords Go.Proofs.YtcnkjcbjlopkmaaW.PrintLast Go.Proofs.YtcnkjcbjlopkmaaW.PrintMore
set_option linter.unusedVariables false
set_option linter.unusedSimpArgs false
theorem rd_eg (es : List S78) (e : Nat) : rd_T78 es (e : Int) = eg es e := by unfold rd_T78 eg; rw [Int.toNat_natCast]
theorem edgesT_le (es : List S78) : ∀ d e T a b, edgesT es d e T a b ≤ T a b
  | 0, e, T, a, b => Int.le_refl _
  | d + 1, e, T, a, b => by
    unfold edgesT
    exact Int.le_trans (edgesT_le es d (e + 1) _ a b) (upd_le _ _ _ _ _ _)
theorem edgesT_edge (es : List S78) : ∀ d e T i, e ≤ i → i < e + d → edgesT es d e T (eg es i).f0.toNat (eg es i).f1.toNat ≤ (eg es i).f2
  | 0, e, T, i, h1, h2 => by omega
  | d + 1, e, T, i, h1, h2 => by
    unfold edgesT
    rw [rd_eg]
    by_cases h : i = e
    · subst h
      refine Int.le_trans (edgesT_le es d (i + 1) _ _ _) ?_
      unfold upd
      rw [if_pos ⟨rfl, rfl⟩]
      exact (mn_le' _ _).2.1
    · exact edgesT_edge es d (e + 1) _ i (by omega) (by omega)
theorem edgesT_from (es : List S78) : ∀ d e T a b, edgesT es d e T a b = T a b ∨ ∃ i, e ≤ i ∧ i < e + d ∧ (eg es i).f0.toNat = a ∧ (eg es i).f1.toNat = b ∧ edgesT es d e T a b = (eg es i).f2
  | 0, e, T, a, b => .inl rfl
  | d + 1, e, T, a, b => by
    unfold edgesT
    rw [rd_eg]
    rcases edgesT_from es d (e + 1) (upd T (eg es e).f0.toNat (eg es e).f1.toNat (mn (T (eg es e).f0.toNat (eg es e).f1.toNat) (eg es e).f2)) a b with h | ⟨i, h1, h2, h3, h4, h5⟩
    · rw [h]
      unfold upd
      split
      · rename_i hh
        rcases (mn_le' (T (eg es e).f0.toNat (eg es e).f1.toNat) (eg es e).f2).2.2 with g | g
        · rw [g, hh.1, hh.2]
          exact .inl rfl
        · exact .inr ⟨e, Nat.le_refl _, by omega, hh.1.symm, hh.2.symm, g⟩
      · exact .inl rfl
    · exact .inr ⟨i, by omega, by omega, h3, h4, h5⟩
theorem T1_le_id (es : List S78) (a b : Nat) : T1 es a b ≤ idT a b := edgesT_le es _ _ _ a b
theorem T1_edge {es : List S78} {i : Nat} (h : i < es.length) : T1 es (eg es i).f0.toNat (eg es i).f1.toNat ≤ (eg es i).f2 := edgesT_edge es _ 0 _ i (by omega) (by omega)
theorem T1_from (es : List S78) (a b : Nat) : T1 es a b = idT a b ∨ ∃ i, i < es.length ∧ (eg es i).f0.toNat = a ∧ (eg es i).f1.toNat = b ∧ T1 es a b = (eg es i).f2 := by
  rcases edgesT_from es es.length 0 idT a b with h | ⟨i, h1, h2, h3⟩
  · exact .inl h
  · exact .inr ⟨i, by omega, h3⟩
theorem T1_way {n : Nat} {es : List S78} (ho : OkE n es) {a b : Nat} (h : T1 es a b < FREE) : ∃ p, Way es (a : Int) (b : Int) p (T1 es a b) := by
  rcases T1_from es a b with g | ⟨i, h1, h2, h3, h4⟩
  · rw [g] at h ⊢
    unfold idT at h ⊢
    by_cases e : a = b
    · subst e
      rw [if_pos rfl]
      exact ⟨[], Way.nil _⟩
    · rw [if_neg e] at h
      exact absurd h (Int.lt_irrefl _)
  · have hm := ho _ (eg_mem h1)
    rw [h4]
    exact ⟨[i], (Way.one h1).cast (by omega) (by omega) rfl rfl⟩
theorem PN_way {es : List S78} {N j : Nat} {T : Tb} (hj : j < N) (h : ∀ a b, a < N → b < N → T a b < FREE → ∃ p, Way es (a : Int) (b : Int) p (T a b)) : ∀ a b, a < N → b < N → PN N j T a b < FREE → ∃ p, Way es (a : Int) (b : Int) p (PN N j T a b) := by
  intro a b ha hb hf
  unfold PN at hf ⊢
  split
  · rename_i hh
    rw [if_pos hh] at hf
    rcases (mn_le' (T a b) (T a j + T j b)).2.2 with e | e
    · rw [e] at hf ⊢
      exact h a b ha hb hf
    · rw [e]
      obtain ⟨p, hp⟩ := h a j ha hj hh.2.2.1
      obtain ⟨q, hq⟩ := h j b hj hb hh.2.2.2
      exact ⟨p ++ q, hp.append hq⟩
  · rename_i hh
    rw [if_neg hh] at hf
    exact h a b ha hb hf
theorem run_way {n : Nat} {es : List S78} (ho : OkE n es) (N : Nat) : ∀ j, j ≤ N → ∀ a b, a < N → b < N → run N (T1 es) j a b < FREE → ∃ p, Way es (a : Int) (b : Int) p (run N (T1 es) j a b)
  | 0, _ => fun a b _ _ h => T1_way ho h
  | j + 1, hj => PN_way (by omega) (run_way ho N j (by omega))
theorem run_le (N : Nat) (T : Tb) : ∀ j a b, run N T j a b ≤ T a b
  | 0, a, b => Int.le_refl _
  | j + 1, a, b => Int.le_trans (PN_le N j _ a b) (run_le N T j a b)
theorem run_later (N : Nat) (T : Tb) (j : Nat) : ∀ k a b, run N T (j + k) a b ≤ run N T j a b
  | 0, a, b => Int.le_refl _
  | k + 1, a, b => Int.le_trans (PN_le N (j + k) _ a b) (run_later N T j k a b)
def Clsd (N m : Nat) (S : Tb) : Prop := ∀ i, i < m → ∀ a b, a < N → b < N → S a i < FREE → S i b < FREE → S a b ≤ S a i + S i b
theorem PN_cases (N j : Nat) (S : Tb) (a b : Nat) : PN N j S a b = S a b ∨ (S a j < FREE ∧ S j b < FREE ∧ PN N j S a b = S a j + S j b) := by
  unfold PN
  split
  · rename_i hh
    rcases (mn_le' (S a b) (S a j + S j b)).2.2 with e | e
    · exact .inl e
    · exact .inr ⟨hh.2.2.1, hh.2.2.2, e⟩
  · exact .inl rfl
theorem PN_through {N j : Nat} {S : Tb} {a b : Nat} (ha : a < N) (hb : b < N) (h1 : S a j < FREE) (h2 : S j b < FREE) : PN N j S a b ≤ S a j + S j b := by
  unfold PN
  rw [if_pos ⟨ha, hb, h1, h2⟩]
  exact (mn_le' _ _).2.1
theorem PN_clsd {N j : Nat} {S : Tb} {B : Int} (hj : j < N) (hb : Bnd N B S) (hB : B ≤ 4294967296) (h0 : 0 ≤ S j j) (hc : Clsd N j S) : Clsd N (j + 1) (PN N j S) := by
  intro i hi a b ha hbb h1 h2
  have hF : FREE = 1099511627776 := rfl
  have hle : PN N j S a b ≤ S a b := PN_le N j S a b
  by_cases hij : i = j
  · subst hij
    have g1 : S a i < FREE ∧ S a i ≤ PN N i S a i := by
      rcases PN_cases N i S a i with e | ⟨e1, e2, e3⟩
      · rw [e] at h1 ⊢; exact ⟨h1, Int.le_refl _⟩
      · exact ⟨e1, by omega⟩
    have g2 : S i b < FREE ∧ S i b ≤ PN N i S i b := by
      rcases PN_cases N i S i b with e | ⟨e1, e2, e3⟩
      · rw [e] at h2 ⊢; exact ⟨h2, Int.le_refl _⟩
      · exact ⟨e2, by omega⟩
    have := PN_through ha hbb g1.1 g2.1
    omega
  · have hi' : i < j := by omega
    have hiN : i < N := by omega
    rcases PN_cases N j S a i with e | ⟨e1, e2, e3⟩
    · rw [e] at h1 ⊢
      rcases PN_cases N j S i b with f | ⟨f1, f2, f3⟩
      · rw [f] at h2 ⊢
        have := hc i hi' a b ha hbb h1 h2
        omega
      · have c1 := hc i hi' a j ha hj h1 f1
        have b1 := (hb a i ha hiN).2.2 h1
        have b2 := (hb i j hiN hj).2.2 f1
        have := PN_through ha hbb (show S a j < FREE by omega) f2
        omega
    · rcases PN_cases N j S i b with f | ⟨f1, f2, f3⟩
      · rw [f] at h2 ⊢
        have c1 := hc i hi' j b hj hbb e2 h2
        have b1 := (hb j i hj hiN).2.2 e2
        have b2 := (hb i b hiN hbb).2.2 h2
        have := PN_through ha hbb e1 (show S j b < FREE by omega)
        omega
      · have c1 := hc i hi' j j hj hj e2 f1
        have := PN_through ha hbb e1 f2
        omega
theorem run_clsd {N : Nat} {T : Tb} (hb : Bnd N 2097152 T) (hN : N ≤ 11) (hn : negB N (run N T N) = false) : ∀ j, j ≤ N → Clsd N j (run N T j)
  | 0, _ => fun i hi => absurd hi (Nat.not_lt_zero _)
  | j + 1, hj => by
    have h0 := nonneg_of hn j (by omega)
    have h1 := run_later N T j (N - j) j j
    rw [show j + (N - j) = N by omega] at h1
    exact PN_clsd (by omega) (run_bnd hb hN j (by omega)) (pow2_le j (by omega)) (by omega) (run_clsd hb hN hn j (by omega))
def R_ (n : Nat) (es : List S78) : Tb := run (n + 1) (T1 es) (n + 1)
section
variable {n : Nat} {es : List S78}
theorem R_bnd (hn : n ≤ 10) (ho : OkE n es) : Bnd (n + 1) 4294967296 (R_ n es) := by
  have h := run_bnd (T1_bnd (n + 1) ho) (by omega) (n + 1) (Nat.le_refl _)
  intro a b ha hb
  have h2 := h a b ha hb
  have h3 := pow2_le (n + 1) (by omega)
  exact ⟨by unfold R_; omega, h2.2.1, fun hf => Int.le_trans (h2.2.2 hf) h3⟩
theorem R_clsd (hn : n ≤ 10) (ho : OkE n es) (h : negB (n + 1) (R_ n es) = false) : Clsd (n + 1) (n + 1) (R_ n es) := run_clsd (T1_bnd (n + 1) ho) (by omega) h (n + 1) (Nat.le_refl _)
theorem R_diag (hn : n ≤ 10) (ho : OkE n es) (h : negB (n + 1) (R_ n es) = false) {a : Nat} (ha : a < n + 1) : R_ n es a a = 0 := by
  have h1 := nonneg_of h a ha
  have h2 := run_le (n + 1) (T1 es) (n + 1) a a
  have h3 := T1_le_id es a a
  unfold idT at h3
  rw [if_pos rfl] at h3
  unfold R_ at h1 ⊢
  omega
theorem R_way_le (hn : n ≤ 10) (ho : OkE n es) (h : negB (n + 1) (R_ n es) = false) {a b : Int} {p : List Nat} {s : Int} (w : Way es a b p s) : 0 ≤ a → a ≤ n → 0 ≤ b → b ≤ n → R_ n es a.toNat b.toNat < FREE ∧ R_ n es a.toNat b.toNat ≤ s := by
  induction w with
  | nil a =>
    intro h1 h2 _ _
    rw [R_diag hn ho h (by omega)]
    exact ⟨by decide, Int.le_refl _⟩
  | @cons i c p t hi _ ih =>
    intro h1 h2 h3 h4
    have hm := ho _ (eg_mem hi)
    obtain ⟨g1, g2⟩ := ih hm.2.2.1 hm.2.2.2.1 h3 h4
    have e1 := T1_edge hi
    have e2 := run_le (n + 1) (T1 es) (n + 1) (eg es i).f0.toNat (eg es i).f1.toNat
    have hF : FREE = 1099511627776 := rfl
    have e3 : R_ n es (eg es i).f0.toNat (eg es i).f1.toNat ≤ (eg es i).f2 := Int.le_trans e2 e1
    have b1 := (R_bnd hn ho (eg es i).f1.toNat c.toNat (by omega) (by omega)).2.2 g1
    have e4 := R_clsd hn ho h (eg es i).f1.toNat (by omega) (eg es i).f0.toNat c.toNat (by omega) (by omega) (by omega) g1
    exact ⟨by omega, by omega⟩
theorem neg_iff (hn : n ≤ 10) (ho : OkE n es) : negB (n + 1) (R_ n es) = true ↔ ∃ a p s, Way es a a p s ∧ s < 0 := by
  constructor
  · intro h
    obtain ⟨i, hi, hneg⟩ := (negB_iff _ _).1 h
    obtain ⟨p, hp⟩ := run_way ho (n + 1) (n + 1) (Nat.le_refl _) i i hi hi (Int.lt_trans hneg (by decide))
    exact ⟨(i : Int), p, _, hp, hneg⟩
  · rintro ⟨a, p, s, w, hs⟩
    cases hc : negB (n + 1) (R_ n es) with
    | true => rfl
    | false =>
      exfalso
      cases p with
      | nil => have := w.nil_eq.2; omega
      | cons i q =>
        obtain ⟨h1, h2, -⟩ := w.head
        have hm := ho _ (eg_mem h2)
        have := (R_way_le hn ho hc w (by omega) (by omega) (by omega) (by omega)).2
        rw [R_diag hn ho hc (by omega)] at this
        omega
end
end Go.Proofs.Ytcnkjcbjlopkmaa.Q
