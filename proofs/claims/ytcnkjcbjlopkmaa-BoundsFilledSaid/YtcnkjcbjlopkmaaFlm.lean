/- Differences with their values in the opposite order; values that keep differences, and Holds. -/
import Derived.Test.YtcnkjcbjlopkmaaFlp
namespace Go.Proofs.Ytcnkjcbjlopkmaa.Q
open Go.RowKit Go.Proofs.YtcnkjcbjlopkmaaW.PrintWords Go.Proofs.YtcnkjcbjlopkmaaW.PrintLast Go.Proofs.YtcnkjcbjlopkmaaW.PrintMore
set_option linter.unusedVariables false
set_option linter.unusedSimpArgs false

/-- A value's number in the opposite order; below 0 it stays. -/
def tu (n : Nat) (a : Int) : Int := if a ≥ 0 then (n : Int) - 1 - a else a
def tuD (n : Nat) (x : S54) : S54 := ⟨tu n x.f0, tu n x.f1, x.f2⟩
/-- The same of a row. -/
def mir (n : Nat) (a : Int) : Int := if a = n then n else (n : Int) - 1 - a
theorem rowOf_tu {n : Nat} {a : Int} (h0 : -1 ≤ a) (h1 : a < n) : rowOf (n : Int) (tu n a) = mir n (rowOf (n : Int) a) := by
  unfold rowOf tu mir
  by_cases h : a ≥ 0
  · rw [if_pos h, if_neg (show ¬ a < 0 by omega), if_neg (by omega), if_neg (by omega)]
  · rw [if_neg h, if_pos (by omega), if_pos rfl]
section
variable {n : Nat} {d : List S54}
theorem tuD_good {x : S54} (h : GoodD (n : Int) x) : GoodD (n : Int) (tuD n x) := by
  obtain ⟨h1, h2, h3, h4, h5, h6, h7⟩ := h
  have key : ∀ a : Int, -1 ≤ a → a < n → -1 ≤ tu n a ∧ tu n a < n := by
    intro a h0 h1
    unfold tu
    split <;> omega
  have hne : tu n x.f0 ≠ tu n x.f1 := by
    unfold tu
    by_cases a : x.f0 ≥ 0
    · by_cases b : x.f1 ≥ 0
      · rw [if_pos a, if_pos b]; omega
      · rw [if_pos a, if_neg b]; omega
    · by_cases b : x.f1 ≥ 0
      · rw [if_neg a, if_pos b]; omega
      · rw [if_neg a, if_neg b]; exact h5
  exact ⟨(key _ h1 h2).1, (key _ h1 h2).2, (key _ h3 h4).1, (key _ h3 h4).2, hne, h6, h7⟩
theorem tuD_tuD {x : S54} (h : GoodD (n : Int) x) : tuD n (tuD n x) = x := by
  obtain ⟨h1, h2, h3, h4, -, -, -⟩ := h
  have key : ∀ a : Int, -1 ≤ a → a < n → tu n (tu n a) = a := by
    intro a h0 h1
    unfold tu
    by_cases h : a ≥ 0
    · rw [if_pos h, if_pos (by omega)]; omega
    · rw [if_neg h, if_neg h]
  unfold tuD
  simp only
  rw [key _ h1 h2, key _ h3 h4]
theorem tu_all (hg : ∀ x ∈ d, GoodD (n : Int) x) : ∀ x ∈ d.map (tuD n), GoodD (n : Int) x := by
  intro x hx
  obtain ⟨y, hy, rfl⟩ := List.mem_map.1 hx
  exact tuD_good (hg y hy)
theorem tu_back (hg : ∀ x ∈ d, GoodD (n : Int) x) : (d.map (tuD n)).map (tuD n) = d := by
  rw [List.map_map]
  have : ∀ x ∈ d, (tuD n ∘ tuD n) x = id x := fun x hx => tuD_tuD (hg x hx)
  rw [List.map_congr_left this, List.map_id]
theorem tu_edge (hg : ∀ x ∈ d, GoodD (n : Int) x) {i : Nat} (hi : i < d.length) : eg (ed n (d.map (tuD n))) i = ⟨mir n (eg (ed n d) i).f0, mir n (eg (ed n d) i).f1, (eg (ed n d) i).f2⟩ := by
  rw [ed_get hi, ed_get (show i < (d.map (tuD n)).length by rw [List.length_map]; exact hi)]
  have h := hg _ (List.getElem_mem hi)
  rw [List.getElem_map]
  generalize d[i] = x at h ⊢
  obtain ⟨h1, h2, h3, h4, -, -, -⟩ := h
  show S78.mk (rowOf (n : Int) (tu n x.f0)) (rowOf (n : Int) (tu n x.f1)) x.f2 = S78.mk (mir n (rowOf (n : Int) x.f0)) (mir n (rowOf (n : Int) x.f1)) x.f2
  rw [rowOf_tu h1 h2, rowOf_tu h3 h4]
theorem tu_way (hg : ∀ x ∈ d, GoodD (n : Int) x) {a b s : Int} {p : List Nat} (w : Q.Way (ed n d) a b p s) : Q.Way (ed n (d.map (tuD n))) (mir n a) (mir n b) p s := by
  induction w with
  | nil a => exact Way.nil _
  | @cons i c p t hi _ ih =>
    have hi2 : i < d.length := by rwa [ed_len] at hi
    have e := tu_edge hg hi2
    have := Way.cons (es := ed n (d.map (tuD n))) (i := i) (c := mir n c) (p := p) (s := t) (by rw [ed_len, List.length_map]; exact hi2) (by rw [e]; exact ih)
    rw [e] at this
    exact this
theorem tu_neg (hn : n ≤ 10) (hl : d.length ≤ 64) (hg : ∀ x ∈ d, GoodD (n : Int) x) : negB (n + 1) (R_ n (ed n (d.map (tuD n)))) = negB (n + 1) (R_ n (ed n d)) := by
  have ht := tu_all hg
  have hlt : (d.map (tuD n)).length ≤ 64 := by rw [List.length_map]; exact hl
  rw [Bool.eq_iff_iff, neg_iff hn (ed_ok hn hlt ht), neg_iff hn (ed_ok hn hl hg)]
  constructor
  · rintro ⟨a, p, s, w, hs⟩
    have := tu_way ht w
    rw [tu_back hg] at this
    exact ⟨_, p, s, this, hs⟩
  · rintro ⟨a, p, s, w, hs⟩
    exact ⟨_, p, s, tu_way hg w, hs⟩
/-- The value at a row. -/
def va (u : List Int) (a : Int) : Int := u.getD a.toNat 0
/-- The values keep each difference. -/
def KeepE (es : List S78) (u : List Int) : Prop := ∀ i, i < es.length → va u (eg es i).f0 ≤ va u (eg es i).f1 + (eg es i).f2
theorem KeepE.way {es : List S78} {u : List Int} (h : KeepE es u) {a b s : Int} {p : List Nat} (w : Q.Way es a b p s) : va u a ≤ va u b + s := by
  induction w with
  | nil a => omega
  | @cons i c p t hi _ ih =>
    have := h i hi
    omega
theorem KeepE.keep {es : List S78} (ho : OkE n es) {u : List Int} (hu : u.length = n) (h : KeepE es u) : Keep n (R_ n es) u := by
  intro a b ha hb hf
  have ha2 : a < n + 1 := by unfold Stand at ha; omega
  have hb2 : b < n + 1 := by unfold Stand at hb; omega
  obtain ⟨p, w⟩ := run_way ho (n + 1) (n + 1) (Nat.le_refl _) a b ha2 hb2 hf
  have := h.way w
  unfold va at this
  rw [Int.toNat_natCast, Int.toNat_natCast] at this
  exact this
theorem Keep.edges (hn : n ≤ 10) {es : List S78} (ho : OkE n es) {u : List Int} (hu : u.length = n) (h : Keep n (R_ n es) u) : KeepE es u := by
  intro i hi
  have hF : FREE = 1099511627776 := rfl
  have hm := ho _ (eg_mem hi)
  have h1 := T1_edge hi
  have h2 := run_le (n + 1) (T1 es) (n + 1) (eg es i).f0.toNat (eg es i).f1.toNat
  have h3 : R_ n es (eg es i).f0.toNat (eg es i).f1.toNat ≤ (eg es i).f2 := Int.le_trans h2 h1
  have := h (eg es i).f0.toNat (eg es i).f1.toNat (by unfold Stand; omega) (by unfold Stand; omega) (by omega)
  unfold va
  omega
theorem va_rev {u : List Int} (hu : u.length = n) {a : Int} (h0 : 0 ≤ a) (h1 : a ≤ n) : va u.reverse a = va u (mir n a) := by
  unfold va mir
  rw [List.getD_eq_getElem?_getD, List.getD_eq_getElem?_getD]
  by_cases h : a = n
  · rw [if_pos h, List.getElem?_eq_none (by rw [List.length_reverse]; omega), List.getElem?_eq_none (by omega)]
  · rw [if_neg h, List.getElem?_reverse (by omega)]
    congr 2
    omega
theorem rev_keep (hn : n ≤ 10) (hl : d.length ≤ 64) (hg : ∀ x ∈ d, GoodD (n : Int) x) {t : List Int} (ht : t.length = n) (h : Keep n (R_ n (ed n (d.map (tuD n)))) t) : Keep n (R_ n (ed n d)) t.reverse := by
  have hta := tu_all hg
  have hlt : (d.map (tuD n)).length ≤ 64 := by rw [List.length_map]; exact hl
  have ho := ed_ok hn hl hg
  have hE := h.edges hn (ed_ok hn hlt hta) ht
  refine KeepE.keep ho (by rw [List.length_reverse]; exact ht) (fun i hi => ?_)
  have hi2 : i < d.length := by rwa [ed_len] at hi
  have hm := ho _ (eg_mem hi)
  have := hE i (by rw [ed_len, List.length_map]; exact hi2)
  rw [tu_edge hg hi2] at this
  rw [va_rev ht hm.1 hm.2.1, va_rev ht hm.2.2.1 hm.2.2.2.1]
  exact this
/-! Holds. -/
theorem firstBad_ok {vs : List Int} : ∀ {l : List S55} {i : Nat}, (∀ x ∈ l, breaks vs x = false) → firstBad vs l i = -1
  | [], i, _ => rfl
  | x :: l, i, h => by
    unfold firstBad
    rw [if_neg (by rw [h x (by simp)]; simp)]
    exact firstBad_ok (fun y hy => h y (by simp [hy]))
theorem va_bd {u : List Int} {B : Int} (hB : 0 ≤ B) (hu : ∀ i, i < u.length → -B ≤ u.getD i 0 ∧ u.getD i 0 ≤ B) (a : Int) : -B ≤ va u a ∧ va u a ≤ B := by
  unfold va
  by_cases h : a.toNat < u.length
  · exact hu _ h
  · rw [List.getD_eq_getElem?_getD, List.getElem?_eq_none (by omega)]
    simp only [Option.getD_none]
    omega
theorem got_va {u : List Int} (hu : u.length = n) {a : Int} : gotV u a = va u (rowOf (n : Int) a) := by
  unfold gotV rowOf va rd
  by_cases h : a < 0
  · rw [if_pos h, if_pos h, Int.toNat_natCast, List.getD_eq_getElem?_getD, List.getElem?_eq_none (by omega)]
    rfl
  · rw [if_neg h, if_neg h]
theorem holds_keep (hg : ∀ x ∈ d, GoodD (n : Int) x) {u : List Int} (hu : u.length = n) {B : Int} (hB : 0 ≤ B) (hB2 : B ≤ 1000000) (hub : ∀ i, i < u.length → -B ≤ u.getD i 0 ∧ u.getD i 0 ≤ B) (h : KeepE (ed n d) u) : firstBad u (d.map o55) 0 = -1 := by
  refine firstBad_ok (fun y hy => ?_)
  obtain ⟨x, hx, rfl⟩ := List.mem_map.1 hy
  obtain ⟨i, hi, rfl⟩ := List.getElem_of_mem hx
  have he := h i (by rw [ed_len]; exact hi)
  rw [ed_get hi] at he
  have hgd := hg _ (List.getElem_mem hi)
  generalize d[i] = x at he hgd
  obtain ⟨h1, h2, h3, h4, h5, h6, h7⟩ := hgd
  have b1 := va_bd hB hub (rowOf (n : Int) x.f0)
  have b2 := va_bd hB hub (rowOf (n : Int) x.f1)
  have he' : va u (rowOf (n : Int) x.f0) ≤ va u (rowOf (n : Int) x.f1) + x.f2 := he
  unfold breaks o55
  simp only
  rw [got_va hu, got_va hu, wrapOk _ (by omega) (by omega)]
  simp only [Bool.or_eq_false_iff, decide_eq_false_iff_not]
  omega
end
end Go.Proofs.Ytcnkjcbjlopkmaa.Q
