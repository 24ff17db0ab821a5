import Derived.Test.YtcnkjcbjlopkmaaRcl
namespace Go.Proofs.Ytcnkjcbjlopkmaa.Q
open Go.RowKit Go.Proofs.YtcnkjcbjlopkmaaW.PrintWords Go.Proofs.YtcnkjcbjlopkmaaW.PrintLast Go.Proofs.YtcnkjcbjlopkmaaW.PrintMore
set_option linter.unusedVariables false
set_option linter.unusedSimpArgs false
def eg (es : List S78) (i : Nat) : S78 := es.getD i z78
inductive Way (es : List S78) : Int → Int → List Nat → Int → Prop
  | nil (a : Int) : Way es a a [] 0
  | cons {i : Nat} {c : Int} {p : List Nat} {s : Int} (h : i < es.length) (t : Way es (eg es i).f1 c p s) : Way es (eg es i).f0 c (i :: p) ((eg es i).f2 + s)
theorem Way.one {es : List S78} {i : Nat} (h : i < es.length) : Way es (eg es i).f0 (eg es i).f1 [i] (eg es i).f2 := by
  have := Way.cons h (Way.nil (es := es) (eg es i).f1)
  rwa [Int.add_zero] at this
theorem Way.cast {es : List S78} {a b a' b' : Int} {p p' : List Nat} {s s' : Int} (h : Way es a b p s) (ha : a = a') (hb : b = b') (hp : p = p') (hs : s = s') : Way es a' b' p' s' := by
  subst ha hb hp hs
  exact h
theorem Way.append {es : List S78} {a b c : Int} {p q : List Nat} {s t : Int} (h : Way es a b p s) (g : Way es b c q t) : Way es a c (p ++ q) (s + t) := by
  induction h with
  | nil a => exact g.cast rfl rfl rfl (by omega)
  | cons hi _ ih => exact (Way.cons hi (ih g)).cast rfl rfl rfl (by omega)
theorem Way.split {es : List S78} {c : Int} {q : List Nat} : ∀ {p : List Nat} {a s : Int}, Way es a c (p ++ q) s → ∃ b s1 s2, Way es a b p s1 ∧ Way es b c q s2 ∧ s = s1 + s2
  | [], a, s, h => ⟨a, 0, s, Way.nil a, h, by omega⟩
  | i :: p, a, s, h => by
    rw [List.cons_append] at h
    cases h with
    | cons hi t =>
      obtain ⟨b, s1, s2, h1, h2, h3⟩ := Way.split t
      exact ⟨b, _, s2, Way.cons hi h1, h2, by omega⟩
theorem Way.head {es : List S78} {a c : Int} {i : Nat} {q : List Nat} {s : Int} (h : Way es a c (i :: q) s) : a = (eg es i).f0 ∧ i < es.length ∧ Way es (eg es i).f1 c q (s - (eg es i).f2) := by
  cases h with
  | cons hi t => exact ⟨rfl, hi, t.cast rfl rfl rfl (by omega)⟩
theorem Way.nil_eq {es : List S78} {a c s : Int} (h : Way es a c [] s) : a = c ∧ s = 0 := by cases h; exact ⟨rfl, rfl⟩
theorem Way.mem {es : List S78} {a c : Int} {p : List Nat} {s : Int} (h : Way es a c p s) : ∀ i ∈ p, i < es.length := by
  induction h with
  | nil a => intro i hi; cases hi
  | cons hi _ ih =>
    intro j hj
    rcases List.mem_cons.1 hj with rfl | hj
    · exact hi
    · exact ih j hj
structure LeastNeg (es : List S78) (a : Int) (p : List Nat) (s : Int) : Prop where
  way : Way es a a p s
  neg : s < 0
  least : ∀ a' p' s', Way es a' a' p' s' → s' < 0 → p.length ≤ p'.length
theorem exists_least (es : List S78) : ∀ n a p s, p.length ≤ n → Way es a a p s → s < 0 → ∃ a' p' s', LeastNeg es a' p' s' ∧ p'.length ≤ p.length
  | 0, a, p, s, hn, h, hs => by
    have : p = [] := List.length_eq_zero_iff.1 (by omega)
    subst this
    cases h
    omega
  | n + 1, a, p, s, hn, h, hs => by
    by_cases hx : ∃ a' p' s', Way es a' a' p' s' ∧ s' < 0 ∧ p'.length < p.length
    · obtain ⟨a', p', s', h1, h2, h3⟩ := hx
      obtain ⟨a2, p2, s2, g1, g2⟩ := exists_least es n a' p' s' (by omega) h1 h2
      exact ⟨a2, p2, s2, g1, by omega⟩
    · exact ⟨a, p, s, ⟨h, hs, fun a' p' s' g1 g2 => Nat.le_of_not_lt fun hh => hx ⟨a', p', s', g1, g2, hh⟩⟩, Nat.le_refl _⟩
theorem LeastNeg.simple {es : List S78} {a : Int} {s : Int} : ∀ {q x p : List Nat}, LeastNeg es a p s → p = x ++ q → (q.map fun i => (eg es i).f0).Nodup
  | [], x, p, h, e => by simp
  | i :: q, x, p, h, e => by
    rw [List.map_cons, List.nodup_cons]
    refine ⟨fun hm => ?_, LeastNeg.simple (x := x ++ [i]) h (by rw [e]; simp)⟩
    obtain ⟨j, hj, hij⟩ := List.mem_map.1 hm
    obtain ⟨y, z, hq⟩ := List.append_of_mem hj
    have hp : p = x ++ ((i :: y) ++ (j :: z)) := by rw [e, hq, List.cons_append]
    have hw := h.way
    rw [hp] at hw
    obtain ⟨b, s1, s23, w1, w23, e1⟩ := hw.split
    obtain ⟨c, s2, s3, w2, w3, e2⟩ := w23.split
    have hb := w2.head.1
    have hc := w3.head.1
    have hbc : c = b := by rw [hb, hc, hij]
    subst hbc
    have hn := h.neg
    have hl : p.length = x.length + (y.length + 1 + (z.length + 1)) := by rw [hp]; simp; omega
    by_cases h2 : s2 < 0
    · have := h.least c _ s2 w2 h2
      simp only [List.length_cons] at this
      omega
    · have := h.least a _ (s1 + s3) (w1.append w3) (by omega)
      simp only [List.length_append, List.length_cons] at this
      omega
theorem nodup_le : ∀ (n : Nat) (l : List Nat), l.Nodup → (∀ x ∈ l, x < n) → l.length ≤ n
  | 0, l, _, h => by
    cases l with
    | nil => simp
    | cons x r => exact absurd (h x (by simp)) (by omega)
  | n + 1, l, hd, h => by
    have h1 := nodup_le n (l.erase n) (hd.erase n) (fun x hx => by
      have := (List.Nodup.mem_erase_iff hd).1 hx
      have := h x this.2
      omega)
    by_cases hm : n ∈ l
    · rw [List.length_erase_of_mem hm] at h1
      omega
    · rw [List.erase_of_not_mem hm] at h1
      omega
theorem nodup_of_map {α β : Type} (f : α → β) : ∀ {l : List α}, (l.map f).Nodup → l.Nodup
  | [], _ => by simp
  | x :: l, h => by
    rw [List.map_cons, List.nodup_cons] at h
    rw [List.nodup_cons]
    exact ⟨fun hx => h.1 (List.mem_map_of_mem hx), nodup_of_map f h.2⟩
theorem LeastNeg.nodup {es : List S78} {a s : Int} {p : List Nat} (h : LeastNeg es a p s) : p.Nodup := nodup_of_map _ (LeastNeg.simple (x := []) h rfl)
theorem LeastNeg.len_edges {es : List S78} {a s : Int} {p : List Nat} (h : LeastNeg es a p s) : p.length ≤ es.length := nodup_le _ _ h.nodup h.way.mem
theorem eg_mem {es : List S78} {i : Nat} (h : i < es.length) : eg es i ∈ es := by
  unfold eg
  rw [List.getD_eq_getElem?_getD, List.getElem?_eq_getElem h]
  exact List.getElem_mem h
theorem LeastNeg.len_rows {es : List S78} {n : Nat} (ho : OkE n es) {a s : Int} {p : List Nat} (h : LeastNeg es a p s) : p.length ≤ n + 1 := by
  have h1 := LeastNeg.simple (x := []) h rfl
  have h2 : (p.map fun i => (eg es i).f0.toNat).Nodup := by
    have hm := h.way.mem
    clear h
    induction p with
    | nil => simp
    | cons i p ih =>
      rw [List.map_cons, List.nodup_cons] at h1 ⊢
      refine ⟨fun hx => h1.1 ?_, ih h1.2 (fun j hj => hm j (by simp [hj]))⟩
      obtain ⟨j, hj, e⟩ := List.mem_map.1 hx
      have a1 := ho _ (eg_mem (hm i (by simp)))
      have a2 := ho _ (eg_mem (hm j (by simp [hj])))
      exact List.mem_map.2 ⟨j, hj, by omega⟩
  have h3 := nodup_le (n + 1) _ h2 (fun x hx => by
    obtain ⟨j, hj, e⟩ := List.mem_map.1 hx
    have := ho _ (eg_mem (h.way.mem j hj))
    omega)
  rwa [List.length_map] at h3
def NoLoop (es : List S78) : Prop := ∀ x ∈ es, x.f0 ≠ x.f1
theorem two_le {es : List S78} (hn : NoLoop es) {a s : Int} : ∀ {p : List Nat}, Way es a a p s → s < 0 → 2 ≤ p.length
  | [], h, hs => by cases h; omega
  | [i], h, hs => by
    obtain ⟨h1, h2, h3⟩ := h.head
    have hne := hn _ (eg_mem h2)
    exact absurd (by rw [← h1, ← h3.nil_eq.1]) hne
  | i :: j :: p, _, _ => by simp
theorem min_mem : ∀ {l : List Nat}, l ≠ [] → ∃ f ∈ l, ∀ j ∈ l, f ≤ j
  | [], h => absurd rfl h
  | [x], _ => ⟨x, by simp, fun j hj => by simp at hj; omega⟩
  | x :: y :: r, _ => by
    obtain ⟨f, h1, h2⟩ := min_mem (l := y :: r) (by simp)
    by_cases h : x ≤ f
    · exact ⟨x, by simp, fun j hj => by
        rcases List.mem_cons.1 hj with rfl | hj
        · exact Nat.le_refl _
        · exact Nat.le_trans h (h2 j hj)⟩
    · exact ⟨f, List.mem_cons_of_mem _ h1, fun j hj => by
        rcases List.mem_cons.1 hj with rfl | hj
        · omega
        · exact h2 j hj⟩
theorem LeastNeg.turned {es : List S78} {a s : Int} {p : List Nat} (h : LeastNeg es a p s) : ∃ f q, f < es.length ∧ q.length + 1 = p.length ∧ (∀ j ∈ q, f < j) ∧ Way es (eg es f).f1 (eg es f).f0 q (s - (eg es f).f2) := by
  have hne : p ≠ [] := by
    intro e
    have hw := h.way
    have hs := h.neg
    subst e
    cases hw
    omega
  obtain ⟨f, hf, hmin⟩ := min_mem hne
  obtain ⟨x, y, e⟩ := List.append_of_mem hf
  have hw := h.way
  rw [e] at hw
  obtain ⟨b, s1, s2, w1, w2, es12⟩ := hw.split
  obtain ⟨hb, hfl, w3⟩ := w2.head
  have hd := h.nodup
  rw [e] at hd
  refine ⟨f, y ++ x, hfl, by rw [e]; simp; omega, fun j hj => ?_, (w3.append w1).cast rfl hb rfl (by omega)⟩
  have hjp : j ∈ p := by rw [e]; rcases List.mem_append.1 hj with hj | hj <;> simp [hj]
  have h1 := hmin j hjp
  have h2 : f ≠ j := by
    intro ej
    subst ej
    rw [List.nodup_append] at hd
    rcases List.mem_append.1 hj with hj | hj
    · exact (List.nodup_cons.1 hd.2.1).1 hj
    · exact hd.2.2 _ hj _ (by simp) rfl
  omega
theorem eg_drop (es : List S78) (k i : Nat) : eg (es.drop k) i = eg es (k + i) := by simp [eg, List.getD_eq_getElem?_getD]
theorem Way.drop {es : List S78} {k : Nat} {a b s : Int} {q : List Nat} (h : Way es a b q s) (hk : ∀ j ∈ q, k ≤ j) : Way (es.drop k) a b (q.map (· - k)) s := by
  induction h with
  | nil a => exact Way.nil a
  | @cons i c p t hi _ ih =>
    have hik := hk i (by simp)
    have ht := ih (fun j hj => hk j (by simp [hj]))
    have e : eg (es.drop k) (i - k) = eg es i := by rw [eg_drop]; congr 1; omega
    have := Way.cons (es := es.drop k) (i := i - k) (c := c) (p := p.map (· - k)) (s := t) (by rw [List.length_drop]; omega) (by rw [e]; exact ht)
    exact this.cast (by rw [e]) rfl (by simp) (by rw [e])
end Go.Proofs.Ytcnkjcbjlopkmaa.Q
