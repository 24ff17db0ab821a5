import Derived.Test.YtcnkjcbjlopkmaaRcl
namespace Go.Proofs.Ytcnkjcbjlopkmaa.Q
open Go.RowKit Go.Proofs.YtcnkjcbjlopkmaaW.PrintWords Go.Proofs.YtcnkjcbjlopkmaaW.PrintLast Go.Proofs.YtcnkjcbjlopkmaaW.PrintMore
set_option linter.unusedVariables false
set_option linter.unusedSimpArgs false
def eg (es : List S78) (i : Nat) : S78 := es.getD i z78
inductive Way (es : List S78) : Int → Int → List Nat → Int → Prop
  | nil (a : Int) : Way es a a [] 0
  | cons {i : Nat} {c : Int} {p : List Nat} {s : Int} (h : i < es.length) (t : Way es (eg es i).f1 c p s) : Way es (eg es i).f0 c (i :: p) ((eg es i).f2 + s)
theorem Way.one {es : List S78} {i : Nat} (h : i < es.length) : Way es (eg es i).f0 (eg es i).f1 [i] (eg es i).f2 := by
  have := Way.cons h (Way.nil (es := es) (eg es i).f1)
  rwa [Int.add_zero] at this
theorem Way.cast {es : List S78} {a b a' b' : Int} {p p' : List Nat} {s s' : Int} (h : Way es a b p s) (ha : a = a') (hb : b = b') (hp : p = p') (hs : s = s') : Way es a' b' p' s' := by
  subst ha hb hp hs
  exact h
theorem Way.append {es : List S78} {a b c : Int} {p q : List Nat} {s t : Int} (h : Way es a b p s) (g : Way es b c q t) : Way es a c (p ++ q) (s + t) := by
  induction h with
  | nil a => exact g.cast rfl rfl rfl (by omega)
  | cons hi _ ih => exact (Way.cons hi (ih g)).cast rfl rfl rfl (by omega)
theorem Way.split {es : List S78} {c : Int} {q : List Nat} : ∀ {p : List Nat} {a s : Int}, Way es a c (p ++ q) s → ∃ b s1 s2, Way es a b p s1 ∧ Way es b c q s2 ∧ s = s1 + s2
  | [], a, s, h => ⟨a, 0, s, Way.nil a, h, by omega⟩
  | i :: p, a, s, h => by
    rw [List.cons_append] at h
    cases h with
    | cons hi t =>
      obtain ⟨b, s1, s2, h1, h2, h3⟩ := Way.split t
      exact ⟨b, _, s2, Way.cons hi h1, h2, by omega⟩
theorem Way.head {es : List S78} {a c : Int} {i : Nat} {q : List Nat} {s : Int} (h : Way es a c (i :: q) s) : a = (eg es i).f0 ∧ i < es.length ∧ Way es (eg es i).f1 c q (s - (eg es i).f2) := by
  cases h with
  | cons hi t => exact ⟨rfl, hi, t.cast rfl rfl rfl (by omega)⟩
theorem Way.nil_eq {es : List S78} {a c s : Int} (h : Way es a c [] s) : a = c ∧ s = 0 := by cases h; exact ⟨rfl, rfl⟩
theorem eg_mem {es : List S78} {i : Nat} (h : i < es.length) : eg es i ∈ es := by
  unfold eg
  rw [List.getD_eq_getElem?_getD, List.getElem?_eq_getElem h]
  exact List.getElem_mem h
theorem eg_drop (es : List S78) (k i : Nat) : eg (es.drop k) i = eg es (k + i) := by simp [eg, List.getD_eq_getElem?_getD]
theorem Way.drop {es : List S78} {k : Nat} {a b s : Int} {q : List Nat} (h : Way es a b q s) (hk : ∀ j ∈ q, k ≤ j) : Way (es.drop k) a b (q.map (· - k)) s := by
  induction h with
  | nil a => exact Way.nil a
  | @cons i c p t hi _ ih =>
    have hik := hk i (by simp)
    have ht := ih (fun j hj => hk j (by simp [hj]))
    have e : eg (es.drop k) (i - k) = eg es i := by rw [eg_drop]; congr 1; omega
    have := Way.cons (es := es.drop k) (i := i - k) (c := c) (p := p.map (· - k)) (s := t) (by rw [List.length_drop]; omega) (by rw [e]; exact ht)
    exact this.cast (by rw [e]) rfl (by simp) (by rw [e])
end Go.Proofs.Ytcnkjcbjlopkmaa.Q
