import Derived.Test.YtcnkjcbjlopkmaaWlk
namespace Go.Proofs.Ytcnkjcbjlopkmaa.Q
open Go.RowKit Go.Proofs.YtcnkjcbjlopkmaaW.PrintWords Go.Proofs.YtcnkjcbjlopkmaaW.PrintLast Go.Proofs.YtcnkjcbjlopkmaaW.PrintMore
set_option linter.unusedVariables false
set_option linter.unusedSimpArgs false
theorem rd_eg (es : List S78) (e : Nat) : rd_T78 es (e : Int) = eg es e := by unfold rd_T78 eg; rw [Int.toNat_natCast]
theorem edgesT_le (es : List S78) : ∀ d e T a b, edgesT es d e T a b ≤ T a b
  | 0, e, T, a, b => Int.le_refl _
  | d + 1, e, T, a, b => by
    unfold edgesT
    exact Int.le_trans (edgesT_le es d (e + 1) _ a b) (upd_le _ _ _ _ _ _)
theorem edgesT_edge (es : List S78) : ∀ d e T i, e ≤ i → i < e + d → edgesT es d e T (eg es i).f0.toNat (eg es i).f1.toNat ≤ (eg es i).f2
  | 0, e, T, i, h1, h2 => by omega
  | d + 1, e, T, i, h1, h2 => by
    unfold edgesT
    rw [rd_eg]
    by_cases h : i = e
    · subst h
      refine Int.le_trans (edgesT_le es d (i + 1) _ _ _) ?_
      unfold upd
      rw [if_pos ⟨rfl, rfl⟩]
      exact (mn_le' _ _).2.1
    · exact edgesT_edge es d (e + 1) _ i (by omega) (by omega)
theorem edgesT_from (es : List S78) : ∀ d e T a b, edgesT es d e T a b = T a b ∨ ∃ i, e ≤ i ∧ i < e + d ∧ (eg es i).f0.toNat = a ∧ (eg es i).f1.toNat = b ∧ edgesT es d e T a b = (eg es i).f2
  | 0, e, T, a, b => .inl rfl
  | d + 1, e, T, a, b => by
    unfold edgesT
    rw [rd_eg]
    rcases edgesT_from es d (e + 1) (upd T (eg es e).f0.toNat (eg es e).f1.toNat (mn (T (eg es e).f0.toNat (eg es e).f1.toNat) (eg es e).f2)) a b with h | ⟨i, h1, h2, h3, h4, h5⟩
    · rw [h]
      unfold upd
      split
      · rename_i hh
        rcases (mn_le' (T (eg es e).f0.toNat (eg es e).f1.toNat) (eg es e).f2).2.2 with g | g
        · rw [g, hh.1, hh.2]
          exact .inl rfl
        · exact .inr ⟨e, Nat.le_refl _, by omega, hh.1.symm, hh.2.symm, g⟩
      · exact .inl rfl
    · exact .inr ⟨i, by omega, by omega, h3, h4, h5⟩
theorem T1_le_id (es : List S78) (a b : Nat) : T1 es a b ≤ idT a b := edgesT_le es _ _ _ a b
theorem T1_edge {es : List S78} {i : Nat} (h : i < es.length) : T1 es (eg es i).f0.toNat (eg es i).f1.toNat ≤ (eg es i).f2 := edgesT_edge es _ 0 _ i (by omega) (by omega)
theorem T1_from (es : List S78) (a b : Nat) : T1 es a b = idT a b ∨ ∃ i, i < es.length ∧ (eg es i).f0.toNat = a ∧ (eg es i).f1.toNat = b ∧ T1 es a b = (eg es i).f2 := by
  rcases edgesT_from es es.length 0 idT a b with h | ⟨i, h1, h2, h3⟩
  · exact .inl h
  · exact .inr ⟨i, by omega, h3⟩
theorem run_le (N : Nat) (T : Tb) : ∀ j a b, run N T j a b ≤ T a b
  | 0, a, b => Int.le_refl _
  | j + 1, a, b => Int.le_trans (PN_le N j _ a b) (run_le N T j a b)
theorem run_later (N : Nat) (T : Tb) (j : Nat) : ∀ k a b, run N T (j + k) a b ≤ run N T j a b
  | 0, a, b => Int.le_refl _
  | k + 1, a, b => Int.le_trans (PN_le N (j + k) _ a b) (run_later N T j k a b)
def Clsd (N m : Nat) (S : Tb) : Prop := ∀ i, i < m → ∀ a b, a < N → b < N → S a i < FREE → S i b < FREE → S a b ≤ S a i + S i b
theorem PN_cases (N j : Nat) (S : Tb) (a b : Nat) : PN N j S a b = S a b ∨ (S a j < FREE ∧ S j b < FREE ∧ PN N j S a b = S a j + S j b) := by
  unfold PN
  split
  · rename_i hh
    rcases (mn_le' (S a b) (S a j + S j b)).2.2 with e | e
    · exact .inl e
    · exact .inr ⟨hh.2.2.1, hh.2.2.2, e⟩
  · exact .inl rfl
theorem PN_through {N j : Nat} {S : Tb} {a b : Nat} (ha : a < N) (hb : b < N) (h1 : S a j < FREE) (h2 : S j b < FREE) : PN N j S a b ≤ S a j + S j b := by
  unfold PN
  rw [if_pos ⟨ha, hb, h1, h2⟩]
  exact (mn_le' _ _).2.1
theorem PN_clsd {N j : Nat} {S : Tb} {B : Int} (hj : j < N) (hb : Bnd N B S) (hB : B ≤ 4294967296) (h0 : 0 ≤ S j j) (hc : Clsd N j S) : Clsd N (j + 1) (PN N j S) := by
  intro i hi a b ha hbb h1 h2
  have hF : FREE = 1099511627776 := rfl
  have hle : PN N j S a b ≤ S a b := PN_le N j S a b
  by_cases hij : i = j
  · subst hij
    have g1 : S a i < FREE ∧ S a i ≤ PN N i S a i := by
      rcases PN_cases N i S a i with e | ⟨e1, e2, e3⟩
      · rw [e] at h1 ⊢; exact ⟨h1, Int.le_refl _⟩
      · exact ⟨e1, by omega⟩
    have g2 : S i b < FREE ∧ S i b ≤ PN N i S i b := by
      rcases PN_cases N i S i b with e | ⟨e1, e2, e3⟩
      · rw [e] at h2 ⊢; exact ⟨h2, Int.le_refl _⟩
      · exact ⟨e2, by omega⟩
    have := PN_through ha hbb g1.1 g2.1
    omega
  · have hi' : i < j := by omega
    have hiN : i < N := by omega
    rcases PN_cases N j S a i with e | ⟨e1, e2, e3⟩
    · rw [e] at h1 ⊢
      rcases PN_cases N j S i b with f | ⟨f1, f2, f3⟩
      · rw [f] at h2 ⊢
        have := hc i hi' a b ha hbb h1 h2
        omega
      · have c1 := hc i hi' a j ha hj h1 f1
        have b1 := (hb a i ha hiN).2.2 h1
        have b2 := (hb i j hiN hj).2.2 f1
        have := PN_through ha hbb (show S a j < FREE by omega) f2
        omega
    · rcases PN_cases N j S i b with f | ⟨f1, f2, f3⟩
      · rw [f] at h2 ⊢
        have c1 := hc i hi' j b hj hbb e2 h2
        have b1 := (hb j i hj hiN).2.2 e2
        have b2 := (hb i b hiN hbb).2.2 h2
        have := PN_through ha hbb e1 (show S j b < FREE by omega)
        omega
      · have c1 := hc i hi' j j hj hj e2 f1
        have := PN_through ha hbb e1 f2
        omega
theorem run_clsd {N : Nat} {T : Tb} (hb : Bnd N 2097152 T) (hN : N ≤ 11) (hn : negB N (run N T N) = false) : ∀ j, j ≤ N → Clsd N j (run N T j)
  | 0, _ => fun i hi => absurd hi (Nat.not_lt_zero _)
  | j + 1, hj => by
    have h0 := nonneg_of hn j (by omega)
    have h1 := run_later N T j (N - j) j j
    rw [show j + (N - j) = N by omega] at h1
    exact PN_clsd (by omega) (run_bnd hb hN j (by omega)) (pow2_le j (by omega)) (by omega) (run_clsd hb hN hn j (by omega))
def R_ (n : Nat) (es : List S78) : Tb := run (n + 1) (T1 es) (n + 1)
section
variable {n : Nat} {es : List S78}
theorem R_clsd (hn : n ≤ 10) (ho : OkE n es) (h : negB (n + 1) (R_ n es) = false) : Clsd (n + 1) (n + 1) (R_ n es) := run_clsd (T1_bnd (n + 1) ho) (by omega) h (n + 1) (Nat.le_refl _)
theorem R_diag (hn : n ≤ 10) (ho : OkE n es) (h : negB (n + 1) (R_ n es) = false) {a : Nat} (ha : a < n + 1) : R_ n es a a = 0 := by
  have h1 := nonneg_of h a ha
  have h2 := run_le (n + 1) (T1 es) (n + 1) a a
  have h3 := T1_le_id es a a
  unfold idT at h3
  rw [if_pos rfl] at h3
  unfold R_ at h1 ⊢
  omega
end
theorem PN_fix {N j : Nat} {S : Tb} (hj : j < N) (hc : Clsd N N S) : PN N j S = S := by
  funext a b
  unfold PN
  split
  · rename_i hh
    exact mn_left (hc j hj a b hh.1 hh.2.1 hh.2.2.1 hh.2.2.2)
  · rfl
theorem run_fix {N : Nat} {S : Tb} (hc : Clsd N N S) : ∀ j, j ≤ N → run N S j = S
  | 0, _ => rfl
  | j + 1, hj => by
    show PN N j (run N S j) = S
    rw [run_fix hc j (by omega)]
    exact PN_fix (by omega) hc
end Go.Proofs.Ytcnkjcbjlopkmaa.Q
