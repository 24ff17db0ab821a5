/- Small differences have a small closure. -/
import Derived.Test.YtcnkjcbjlopkmaaWl4
namespace Go.Proofs.Ytcnkjcbjlopkmaa.Q
open Go.RowKit Go.Proofs.YtcnkjcbjlopkmaaW.PrintWords Go.Proofs.YtcnkjcbjlopkmaaW.PrintLast Go.Proofs.YtcnkjcbjlopkmaaW.PrintMore
set_option linter.unusedVariables false
set_option linter.unusedSimpArgs false

/-! Small numbers. -/
def pw (B : Int) : Nat → Int
  | 0 => B
  | j + 1 => 2 * pw B j
theorem pw_le : ∀ j, j ≤ 6 → 0 ≤ pw 100 j ∧ pw 100 j ≤ 6400
  | 0, _ => by decide
  | 1, _ => by decide
  | 2, _ => by decide
  | 3, _ => by decide
  | 4, _ => by decide
  | 5, _ => by decide
  | 6, _ => by decide
  | j + 7, h => by omega
theorem run_small {N : Nat} {T : Tb} (h : Bnd N 100 T) (hN : N ≤ 6) : ∀ j, j ≤ N → Bnd N (pw 100 j) (run N T j)
  | 0, _ => h
  | j + 1, hj => (run_small h hN j (by omega)).step (pw_le j (by omega)).1 (by have := (pw_le j (by omega)).2; omega) j (by omega)
section
variable {n : Nat} {d : List S54}
theorem T1_small (hg : ∀ x ∈ d, GoodD (n : Int) x) : Bnd (n + 1) 100 (T1 (ed n d)) := by
  intro a b ha hb
  have hF : FREE = 1099511627776 := rfl
  rcases T1_from (ed n d) a b with h | ⟨i, h1, h2, h3, h4⟩
  · rw [h]
    unfold idT
    split <;> omega
  · rw [h4]
    rw [ed_len] at h1
    rw [ed_get h1]
    have := hg _ (List.getElem_mem h1)
    have g6 : -100 ≤ (edgeOf (n : Int) (o55 d[i])).f2 := this.2.2.2.2.2.1
    have g7 : (edgeOf (n : Int) (o55 d[i])).f2 ≤ 100 := this.2.2.2.2.2.2
    omega
theorem R_small (hn : n ≤ 5) (hg : ∀ x ∈ d, GoodD (n : Int) x) : Bnd (n + 1) 6400 (R_ n (ed n d)) := by
  have h := run_small (T1_small hg) (by omega) (n + 1) (Nat.le_refl _)
  have h2 := pw_le (n + 1) (by omega)
  intro a b ha hb
  have h3 := h a b ha hb
  exact ⟨by unfold R_; omega, h3.2.1, fun hf => Int.le_trans (h3.2.2 hf) h2.2⟩
end
end Go.Proofs.Ytcnkjcbjlopkmaa.Q
