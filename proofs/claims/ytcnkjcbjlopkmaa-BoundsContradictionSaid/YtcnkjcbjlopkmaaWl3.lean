import Derived.Test.YtcnkjcbjlopkmaaWl2
namespace Go.Proofs.Ytcnkjcbjlopkmaa.Q
open Go.RowKit Go.Proofs.YtcnkjcbjlopkmaaW.PrintWords Go.Proofs.YtcnkjcbjlopkmaaW.PrintLast Go.Proofs.YtcnkjcbjlopkmaaW.PrintMore
set_option linter.unusedVariables false
set_option linter.unusedSimpArgs false
theorem rd_same {row : List Int} {u v : Int} (h : u.toNat = v.toNat) : rd row u = rd row v := by unfold rd; rw [h]
theorem step1_le (prev row : List Int) (x : S78) (v : Int) : rd (step1 prev row x) v ≤ rd row v := by
  unfold step1
  split
  · rw [rd_set]
    split
    · rename_i h
      rw [rd_same (row := row) h.1]
      exact (mn_le _ _).1
    · exact Int.le_refl _
  · exact Int.le_refl _
theorem stepRow_cons (prev : List Int) (x : S78) (r : List S78) (row : List Int) : stepRow prev (x :: r) row = stepRow prev r (step1 prev row x) := rfl
theorem stepRow_le (prev : List Int) : ∀ (es : List S78) (row : List Int) (v : Int), rd (stepRow prev es row) v ≤ rd row v
  | [], row, v => Int.le_refl _
  | x :: r, row, v => by
    rw [stepRow_cons]
    exact Int.le_trans (stepRow_le prev r _ v) (step1_le prev row x v)
theorem stepRow_edge (prev : List Int) : ∀ (es : List S78) (row : List Int) (x : S78), x ∈ es → rd prev x.f1 < FREE → x.f0.toNat < row.length → rd (stepRow prev es row) x.f0 ≤ rd prev x.f1 + x.f2
  | y :: r, row, x, hx, h1, h2 => by
    rw [stepRow_cons]
    rcases List.mem_cons.1 hx with rfl | hx
    · refine Int.le_trans (stepRow_le prev r _ _) ?_
      unfold step1
      rw [if_pos h1, rd_set, if_pos ⟨rfl, h2⟩]
      exact (mn_le _ _).2.1
    · exact stepRow_edge prev r _ x hx h1 (by rw [step1_len]; exact h2)
theorem stepRow_from (prev : List Int) : ∀ (es : List S78) (row : List Int) (v : Int), rd (stepRow prev es row) v = rd row v ∨ ∃ x ∈ es, x.f0.toNat = v.toNat ∧ rd prev x.f1 < FREE ∧ rd (stepRow prev es row) v = rd prev x.f1 + x.f2
  | [], row, v => .inl rfl
  | y :: r, row, v => by
    rw [stepRow_cons]
    rcases stepRow_from prev r (step1 prev row y) v with h | ⟨x, h1, h2, h3, h4⟩
    · rw [h]
      unfold step1
      split
      · rename_i hf
        rw [rd_set]
        split
        · rename_i hv
          rcases (mn_le (rd row y.f0) (rd prev y.f1 + y.f2)).2.2 with e | e
          · rw [e, rd_same (row := row) hv.1]
            exact .inl rfl
          · exact .inr ⟨y, by simp, hv.1.symm, hf, e⟩
        · exact .inl rfl
      · exact .inl rfl
    · exact .inr ⟨x, List.mem_cons_of_mem _ h1, h2, h3, h4⟩
theorem ways_zero (n : Nat) (es : List S78) (t v : Int) : rd (ways n es t 0) v = if v.toNat = t.toNat ∧ t.toNat < n + 1 then 0 else if v.toNat < n + 1 then FREE else 0 := by
  rw [ways, rd_set, List.length_replicate]
  split
  · rfl
  · simp only [rd, List.getD_eq_getElem?_getD, List.getElem?_replicate]
    split <;> rfl
section
variable {n : Nat} {es : List S78}
theorem ways_le (ho : OkE n es) {a t : Int} {p : List Nat} {s : Int} (w : Way es a t p s) : 0 ≤ a → a ≤ n → 0 ≤ t → t ≤ n → p.length ≤ 11 → rd (ways n es t p.length) a ≤ s ∧ rd (ways n es t p.length) a < FREE := by
  have hF : FREE = 1099511627776 := rfl
  induction w with
  | nil a =>
    intro h1 h2 _ _ _
    rw [List.length_nil, ways_zero, if_pos ⟨rfl, by omega⟩]
    omega
  | @cons i c p u hi _ ih =>
    intro h1 h2 h3 h4 h5
    have hm := ho _ (eg_mem hi)
    rw [List.length_cons] at h5 ⊢
    obtain ⟨g1, g2⟩ := ih hm.2.2.1 hm.2.2.2.1 h3 h4 (by omega)
    have hb := (ways_bd ho c p.length (eg es i).f1)
    have he := stepRow_edge (ways n es c p.length) es (List.replicate (n + 1) FREE) (eg es i) (eg_mem hi) g2 (by rw [List.length_replicate]; omega)
    have hl := stepRow_from (ways n es c p.length) es (List.replicate (n + 1) FREE) (eg es i).f0
    rw [ways]
    refine ⟨by omega, ?_⟩
    rcases hl with hl | ⟨x, x1, x2, x3, x4⟩
    · have hu : rd (ways n es c p.length) (eg es i).f1 ≤ u := g1
      have hlt : rd (ways n es c p.length) (eg es i).f1 + (eg es i).f2 < FREE ∨ FREE ≤ rd (ways n es c p.length) (eg es i).f1 + (eg es i).f2 := by omega
      rcases hlt with hlt | hlt
      · omega
      · exact absurd hlt (by
          have := ways_small ho c p.length (eg es i).f1 g2
          omega)
    · have := ways_small ho c p.length x.f1 x3
      have := (ho _ x1).2.2.2.2
      omega
where
  ways_small {n : Nat} {es : List S78} (ho : OkE n es) (t : Int) : ∀ (s : Nat) (v : Int), rd (ways n es t s) v < FREE → rd (ways n es t s) v ≤ (s : Int) * 2097152
  | 0, v, h => by
    rw [ways_zero] at h ⊢
    split
    · omega
    · rename_i h1
      rw [if_neg h1] at h
      split
      · rename_i h2
        rw [if_pos h2] at h
        exact absurd h (Int.lt_irrefl _)
      · omega
  | s + 1, v, h => by
    rw [ways] at h ⊢
    rcases stepRow_from (ways n es t s) es (List.replicate (n + 1) FREE) v with e | ⟨x, x1, x2, x3, x4⟩
    · rw [e] at h ⊢
      simp only [rd, List.getD_eq_getElem?_getD, List.getElem?_replicate] at h ⊢
      split
      · rename_i h2
        rw [if_pos h2] at h
        exact absurd h (Int.lt_irrefl _)
      · simp only [Option.getD_none]
        omega
    · have := ways_small ho t s x.f1 x3
      have := (ho _ x1).2.2.2.2
      rw [x4]
      omega
def Goes (W : List Int) (at_ sum : Int) (x : S78) : Prop := x.f0 = at_ ∧ rd W x.f1 < FREE ∧ sum + x.f2 + rd W x.f1 < 0
theorem nextE_some {W : List Int} {at_ sum : Int} : ∀ {E : List S78} {i j : Nat} {x : S78}, nextE W at_ sum E i = some (j, x) → ∃ k, j = i + k ∧ k < E.length ∧ eg E k = x ∧ Goes W at_ sum x
  | [], i, j, x, h => by cases h
  | y :: r, i, j, x, h => by
    unfold nextE at h
    split at h
    · rename_i hc
      injection h with h
      injection h with h1 h2
      subst h1 h2
      exact ⟨0, rfl, by simp, rfl, hc⟩
    · obtain ⟨k, h1, h2, h3, h4⟩ := nextE_some h
      exact ⟨k + 1, by omega, by simp; omega, by rw [← h3]; rfl, h4⟩
theorem nextE_none {W : List Int} {at_ sum : Int} : ∀ {E : List S78} {i : Nat}, nextE W at_ sum E i = none → ∀ x ∈ E, ¬ Goes W at_ sum x
  | [], i, _, x, hx => by cases hx
  | y :: r, i, h, x, hx => by
    unfold nextE at h
    split at h
    · cases h
    · rename_i hc
      rcases List.mem_cons.1 hx with rfl | hx
      · exact hc
      · exact nextE_none h x hx
theorem goOn_way (ho : OkE n es) {tgt : Int} (ht0 : 0 ≤ tgt) (htn : tgt ≤ n) (from_ : Nat) : ∀ (s : Nat) (at_ sum : Int) (p : List Nat), Way es tgt at_ p sum → 0 ≤ at_ → at_ ≤ n → rd (ways n (es.drop from_) tgt s) at_ < FREE → sum + rd (ways n (es.drop from_) tgt s) at_ < 0 →
    ∃ p' s', goOn n (es.drop from_) tgt from_ s at_ sum (p.map (fun (i : Nat) => (i : Int))) = p'.map (fun (i : Nat) => (i : Int)) ∧ p'.length = p.length + s ∧ Way es tgt tgt p' s' ∧ s' < 0
  | 0, at_, sum, p, w, h1, h2, h3, h4 => by
    rw [ways_zero] at h3 h4
    by_cases e : at_.toNat = tgt.toNat ∧ tgt.toNat < n + 1
    · rw [if_pos e] at h4
      have : at_ = tgt := by omega
      subst this
      exact ⟨p, sum, rfl, rfl, w, by omega⟩
    · rw [if_neg e, if_pos (by omega)] at h3
      exact absurd h3 (Int.lt_irrefl _)
  | s + 1, at_, sum, p, w, h1, h2, h3, h4 => by
    unfold goOn
    rw [ways] at h3 h4
    have hne : nextE (ways n (es.drop from_) tgt s) at_ sum (es.drop from_) from_ ≠ none := by
      intro hn
      have hx := nextE_none hn
      rcases stepRow_from (ways n (es.drop from_) tgt s) (es.drop from_) (List.replicate (n + 1) FREE) at_ with e | ⟨x, x1, x2, x3, x4⟩
      · rw [e] at h3
        simp only [rd, List.getD_eq_getElem?_getD, List.getElem?_replicate] at h3
        rw [if_pos (by omega)] at h3
        exact absurd h3 (Int.lt_irrefl _)
      · have hm := ho.drop from_ x x1
        exact hx x x1 ⟨by omega, x3, by omega⟩
    cases hq : nextE (ways n (es.drop from_) tgt s) at_ sum (es.drop from_) from_ with
    | none => exact absurd hq hne
    | some jx =>
      obtain ⟨j, x⟩ := jx
      obtain ⟨k, g1, g2, g3, g4, g5, g6⟩ := nextE_some hq
      rw [List.length_drop] at g2
      have hj : j < es.length := by omega
      have hx : eg es j = x := by rw [← g3, eg_drop, g1]
      have hm := ho _ (eg_mem hj)
      rw [hx] at hm
      have w1 : Way es tgt x.f1 (p ++ [j]) (sum + x.f2) := by
        have := Way.one hj
        rw [hx, g4] at this
        exact w.append this
      obtain ⟨p', s', e1, e2, e3, e4⟩ := goOn_way ho ht0 htn from_ s x.f1 (sum + x.f2) (p ++ [j]) w1 hm.2.2.1 hm.2.2.2.1 g5 g6
      refine ⟨p', s', ?_, by rw [e2]; simp; omega, e3, e4⟩
      rw [← e1]
      simp only [List.map_append, List.map_cons, List.map_nil]
theorem cycleS_some (ho : OkE n es) {f m : Nat} (hf : f < es.length) (hm : 1 ≤ m) {r : List Int} (h : cycleS n es f m = some r) : ∃ p s a, r = p.map (fun (i : Nat) => (i : Int)) ∧ p.length = m ∧ Way es a a p s ∧ s < 0 := by
  unfold cycleS at h
  simp only at h
  have hg : es.getD f z78 = eg es f := rfl
  rw [hg] at h
  split at h
  · rename_i hc
    injection h with h
    have hb := ho _ (eg_mem hf)
    obtain ⟨p, s, e1, e2, e3, e4⟩ := goOn_way ho hb.1 hb.2.1 (f + 1) (m - 1) (eg es f).f1 (eg es f).f2 [f] (Way.one hf) hb.2.2.1 hb.2.2.2.1 hc.1 hc.2
    exact ⟨p, s, _, by rw [← h, ← e1]; rfl, by rw [e2]; simp; omega, e3, e4⟩
  · cases h
theorem cycleS_none (ho : OkE n es) {f : Nat} (hf : f < es.length) {q : List Nat} {s : Int} (hq : ∀ j ∈ q, f < j) (hl : q.length ≤ 11) (w : Way es (eg es f).f1 (eg es f).f0 q (s - (eg es f).f2)) (hs : s < 0) : cycleS n es f (q.length + 1) ≠ none := by
  intro h
  unfold cycleS at h
  simp only at h
  have hg : es.getD f z78 = eg es f := rfl
  rw [hg] at h
  have hb := ho _ (eg_mem hf)
  have w2 := w.drop (k := f + 1) (fun j hj => hq j hj)
  have hw := ways_le (ho.drop (f + 1)) w2 hb.2.2.1 hb.2.2.2.1 hb.1 hb.2.1 (by rw [List.length_map]; exact hl)
  rw [List.length_map] at hw
  rw [show q.length + 1 - 1 = q.length from rfl, if_pos ⟨hw.2, by omega⟩] at h
  cases h
theorem cycFirst_some {l : List S78} {m : Nat} : ∀ {d first : Nat} {r : List Int}, cycFirst n l m d first = some r → ∃ f, first ≤ f ∧ f < first + d ∧ cycleS n l f m = some r
  | 0, _, _, h => by cases h
  | d + 1, first, r, h => by
    unfold cycFirst at h
    split at h
    · rename_i r' h'
      injection h with h
      subst h
      exact ⟨first, Nat.le_refl _, by omega, h'⟩
    · obtain ⟨f, h1, h2, h3⟩ := cycFirst_some h
      exact ⟨f, by omega, by omega, h3⟩
theorem cycFirst_none {l : List S78} {m : Nat} : ∀ {d first : Nat}, cycFirst n l m d first = none → ∀ f, first ≤ f → f < first + d → cycleS n l f m = none
  | 0, _, _, f, h1, h2 => by omega
  | d + 1, first, h, f, h1, h2 => by
    unfold cycFirst at h
    split at h
    · cases h
    · rename_i h'
      by_cases e : f = first
      · subst e; exact h'
      · exact cycFirst_none h f (by omega) (by omega)
theorem cycMany_some {l : List S78} : ∀ {d many : Nat} {r : List Int}, cycMany n l d many = some r → ∃ m, many ≤ m ∧ m < many + d ∧ cycFirst n l m l.length 0 = some r ∧ ∀ m', many ≤ m' → m' < m → cycFirst n l m' l.length 0 = none
  | 0, _, _, h => by cases h
  | d + 1, many, r, h => by
    unfold cycMany at h
    split at h
    · rename_i r' h'
      injection h with h
      subst h
      exact ⟨many, Nat.le_refl _, by omega, h', fun m' h1 h2 => by omega⟩
    · rename_i h'
      obtain ⟨m, h1, h2, h3, h4⟩ := cycMany_some h
      refine ⟨m, by omega, by omega, h3, fun m' g1 g2 => ?_⟩
      by_cases e : m' = many
      · subst e; exact h'
      · exact h4 m' (by omega) g2
theorem cycMany_none {l : List S78} : ∀ {d many : Nat}, cycMany n l d many = none → ∀ m, many ≤ m → m < many + d → cycFirst n l m l.length 0 = none
  | 0, _, _, m, h1, h2 => by omega
  | d + 1, many, h, m, h1, h2 => by
    unfold cycMany at h
    split at h
    · cases h
    · rename_i h'
      by_cases e : m = many
      · subst e; exact h'
      · exact cycMany_none h m (by omega) (by omega)
theorem least_found (hn : n ≤ 10) (ho : OkE n es) {a s : Int} {p : List Nat} (h : LeastNeg es a p s) : cycFirst n es p.length es.length 0 ≠ none := by
  intro hc
  obtain ⟨f, q, h1, h2, h3, h4⟩ := h.turned
  have hl := h.len_rows ho
  have := cycFirst_none hc f (Nat.zero_le _) (by omega)
  rw [← h2] at this
  exact cycleS_none ho h1 h3 (by omega) h4 h.neg this
theorem cyc_some (hn : n ≤ 10) (ho : OkE n es) (hl : NoLoop es) {r : List Int} (h : cycMany n es n 2 = some r) :
    ∃ p s a, r = p.map (fun (i : Nat) => (i : Int)) ∧ 2 ≤ p.length ∧ p.length ≤ n + 1 ∧ Way es a a p s ∧ s < 0 ∧ ∀ a' p' s', Way es a' a' p' s' → s' < 0 → p.length ≤ p'.length := by
  obtain ⟨m, h1, h2, h3, h4⟩ := cycMany_some h
  obtain ⟨f, f1, f2, f3⟩ := cycFirst_some h3
  obtain ⟨p, s, a, e1, e2, e3, e4⟩ := cycleS_some ho (by omega) (by omega) f3
  refine ⟨p, s, a, e1, by omega, by omega, e3, e4, fun a' p' s' w hs => ?_⟩
  obtain ⟨a2, p2, s2, g1, g2⟩ := exists_least es p'.length a' p' s' (Nat.le_refl _) w hs
  have h2p := two_le hl g1.way g1.neg
  have hf := least_found hn ho g1
  by_cases hlt : p2.length < m
  · exact absurd (h4 p2.length h2p hlt) hf
  · omega
theorem cyc_none_iff (hn : n ≤ 10) (ho : OkE n es) (hl : NoLoop es) : cycMany n es n 2 = none ↔ negB (n + 1) (R_ n es) = false := by
  constructor
  · intro h
    cases hc : negB (n + 1) (R_ n es) with
    | false => rfl
    | true =>
      exfalso
      obtain ⟨a, p, s, w, hs⟩ := (neg_iff hn ho).1 hc
      obtain ⟨a2, p2, s2, g1, g2⟩ := exists_least es p.length a p s (Nat.le_refl _) w hs
      have h2p := two_le hl g1.way g1.neg
      have hlr := g1.len_rows ho
      exact least_found hn ho g1 (cycMany_none h p2.length h2p (by omega))
  · intro h
    cases hc : cycMany n es n 2 with
    | none => rfl
    | some r =>
      exfalso
      obtain ⟨p, s, a, -, -, -, w, hs, -⟩ := cyc_some hn ho hl hc
      have := (neg_iff hn ho).2 ⟨a, p, s, w, hs⟩
      rw [h] at this
      cases this
end
theorem Way.of_sub {es : List S78} {pj : List Nat} (hp : ∀ i ∈ pj, i < es.length) {a b s : Int} {q : List Nat} (w : Way (pj.map (eg es)) a b q s) : ∃ q', q'.length = q.length ∧ Way es a b q' s := by
  induction w with
  | nil a => exact ⟨[], rfl, Way.nil a⟩
  | @cons i c p t hi _ ih =>
    obtain ⟨q', h1, h2⟩ := ih
    rw [List.length_map] at hi
    have e : eg (pj.map (eg es)) i = eg es pj[i] := by
      unfold eg
      rw [List.getD_eq_getElem?_getD, List.getElem?_map, List.getElem?_eq_getElem hi]
      rfl
    rw [e] at h2 ⊢
    exact ⟨pj[i] :: q', by simp [h1], Way.cons (hp _ (List.getElem_mem hi)) h2⟩
theorem Way.all_ {es : List S78} {c : Int} : ∀ {p : List Nat} {a s : Int} (pre : List S78), Way es a c p s → ∃ q, Way (pre ++ p.map (eg es)) a c q s
  | [], a, s, pre, w => by
    obtain ⟨rfl, rfl⟩ := w.nil_eq
    exact ⟨[], Way.nil _⟩
  | i :: p, a, s, pre, w => by
    obtain ⟨rfl, h2, h3⟩ := w.head
    obtain ⟨q, hq⟩ := Way.all_ (pre ++ [eg es i]) h3
    rw [List.append_assoc] at hq
    have e : eg (pre ++ (i :: p).map (eg es)) pre.length = eg es i := by
      unfold eg
      rw [List.getD_eq_getElem?_getD, List.getElem?_append_right (Nat.le_refl _)]
      simp
    have := Way.cons (es := pre ++ (i :: p).map (eg es)) (i := pre.length) (c := c) (p := q) (s := s - (eg es i).f2) (by simp) (by rw [e]; exact hq)
    rw [e] at this
    exact ⟨pre.length :: q, this.cast rfl rfl rfl (by omega)⟩
end Go.Proofs.Ytcnkjcbjlopkmaa.Q
